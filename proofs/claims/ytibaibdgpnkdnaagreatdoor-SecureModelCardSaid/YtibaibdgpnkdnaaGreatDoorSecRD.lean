/-
  The reference of the channel: Wrap.
-/
import Derived.Test.YtibaibdgpnkdnaaGreatDoorZ1
import Derived.Test.YtibaibdgpnkdnaaGreatDoorSecRC
import Derived.Test.YtibaibdgpnkdnaaGreatDoorSecQ
namespace Go.Proofs.YtibaibdgpnkdnaaGreatDoor
set_option maxRecDepth 100000
set_option linter.unusedSimpArgs false
set_option linter.unusedVariables false
open Go.RowKit
set_option maxHeartbeats 8000000

/-- What Wrap and Unwrap of the reference leave. -/
def RWr (w : World) (a : ChS) (s : Sec.S) (A : Option Addr) (dn : Nat) (r : Sec.S × Apd.Cmd) (er : Int) (e : Ending) (w' : World) : Prop :=
  ∃ a' A' c', e = .returned (.tuple #[.agg (rst a' r.1), cmdV r.2.cla r.2.ins r.2.p1 r.2.p2 A' r.2.d.length c' r.2.le r.2.long, .int .i64 er]) ∧ RSt w' a' r.1 ∧ Byt w' w'.heap.size A' r.2.d.length c' r.2.d ∧
    (∀ F, Far F (rst a s) → Far (fun q => F q ∨ w.heap.size ≤ q) (rst a' r.1)) ∧ (∀ F, FarS F A dn → FarS (fun q => F q ∨ w.heap.size ≤ q) A' r.2.d.length) ∧ Below w.heap.size w w'
theorem RWr.bad {w w' : World} {a : ChS} {s : Sec.S} {A : Option Addr} {dn : Nat} {x : Apd.Cmd} {k : Int} (H : RSt w a s) (hk : Sec.wrapE s x = k) (h0 : k ≠ 0) (hb : Below w.heap.size w w') :
    RWr w a s A dn (Sec.wrap s x) (Sec.wrapE s x) (.returned (.tuple #[.agg (rst a s), cmdV 0 0 0 0 none 0 0 0 false, .int .i64 k])) w' := by
  have e : Sec.wrap s x = (s, Sec.cz) := by unfold Sec.wrap; rw [if_pos (by rw [hk]; exact h0)]
  rw [e, hk]
  exact ⟨a, none, 0, rfl, H.below hb, Byt.empty, fun F h => rst_far h, fun F _ hn => absurd hn (Nat.lt_irrefl 0), hb⟩
theorem Sec.wrapE_plain {s : Sec.S} {x : Apd.Cmd} (hs : s.shut = false) : Sec.wrapE s x = if Sec.plainE x ≠ 0 then Sec.plainE x else if 65535 < Sec.sz x.d.length (Sec.hb s.lvl 2) + (if Sec.hb s.lvl 1 then 8 else 0) then 3 else 0 := by
  unfold Sec.wrapE Sec.plainE
  rw [if_neg (by rw [hs]; decide)]
  by_cases h1 : Sec.chkC x = 0
  · by_cases h2 : Apd.cok x.cla = false ∨ x.cla / 4 % 2 = 1 ∨ x.cla / 16 % 2 = 1 <;> simp [h1, h2]
  · rw [if_pos h1, if_pos h1, if_pos h1]
theorem Sec.plain_facts {x : Apd.Cmd} (h : Sec.plainE x = 0) : Sec.chkC x = 0 ∧ Apd.cok x.cla = true ∧ ¬ x.cla / 4 % 2 = 1 ∧ ¬ x.cla / 16 % 2 = 1 := by
  unfold Sec.plainE at h
  by_cases h1 : Sec.chkC x = 0
  · rw [if_neg (fun e => e h1)] at h
    by_cases h2 : Apd.cok x.cla = false ∨ x.cla / 4 % 2 = 1 ∨ x.cla / 16 % 2 = 1
    · rw [if_pos h2] at h; cases h
    · refine ⟨h1, ?_, fun e => h2 (.inr (.inl e)), fun e => h2 (.inr (.inr e))⟩
      cases hc : Apd.cok x.cla with
      | true => rfl
      | false => exact absurd (.inl hc) h2
  · rw [if_pos h1] at h; exact absurd h h1
theorem rst_shut {a : ChS} {s : Sec.S} {v : Bool} (h : s.shut = v) : rst a s = cch a s.lvl s.cnt s.exp v := by unfold rst; rw [h]
theorem blks_lone {A : Option Addr} {n c q : Nat} (h : blks #[.slice A n c] q) : ∃ a, A = some a ∧ a.block = q := by
  obtain ⟨A', n', c', a, hm, hn, e, rfl⟩ := h
  simp at hm
  obtain ⟨rfl, rfl, rfl⟩ := hm
  exact ⟨a, e, rfl⟩
theorem RWr.mac {w w' : World} {a : ChS} {s : Sec.S} {A : Option Addr} {dn : Nat} {x : Apd.Cmd} (H : RSt w a s) (hs : s.shut = false) (hw : Sec.wrapE s x = 0) (h1 : Sec.hb s.lvl 1 = true) {D M : List UInt8} (hD : Sec.wrapD s x = D) (hM : Sec.cmac s (x.cla + 4) x.ins x.p1 x.p2 x.le D = M)
    {m c' : Nat} {A' : Option Addr} (hm : (D ++ M).length = m) (hb : Own w' w.heap.size 5 1 A' m c' (bcells (D ++ M))) {C : Option Addr} {cc : Nat} (hC : Byt w' w'.heap.size C 8 cc M) (hCn : ∀ x, C = some x → w.heap.size ≤ x.block) (hl : Below w.heap.size w w') {lg : Bool} (hlg : lg = (x.long || decide (255 < m))) :
    RWr w a s A dn (Sec.wrap s x) (Sec.wrapE s x) (.returned (.tuple #[.agg (cch { a with C := C, cc := cc } s.lvl (s.cnt + 1) true false), cmdV (x.cla + 4) x.ins x.p1 x.p2 A' m c' x.le lg, .int .i64 0])) w' := by
  subst hD
  have hM' : Sec.wrapM s x = M := hM
  rw [Sec.wrap_mac hw h1, hw, hM']
  subst hm
  subst hlg
  have hR := H.below hl
  refine ⟨{ a with C := C, cc := cc }, A', c', ?_, ⟨{ enc := H.ok.enc, mac := H.ok.mac, rmac := H.ok.rmac, dat := H.ok.dat, lvl := H.ok.lvl, chain := hC.1 }, hR.enc, hR.mac, hR.rmac, hR.dat, hC⟩, hb.byt (Nat.le_refl _), fun F h => rst_far_chain h hCn, fun F _ hn y e => .inr ?_, hl⟩
  · rw [rst_shut (s := { s with cnt := s.cnt + 1, exp := true, chain := M }) hs]
  · have hle := hb.le
    have hn : 0 < (Sec.wrapD s x ++ M).length := hn
    exact (hb.lt y.block (by unfold ownAt; rw [if_neg (by omega), e]; rfl)).1
set_option maxRecDepth 100000 in
theorem rwrap_shut (w0 : World) (a : ChS) (s : Sec.S) (H : RSt w0 a s) (hc : s.cnt < 200) (cla ins p1 p2 : Int) (A : Option Addr) (dn c : Nat) (b : List UInt8) (h : Byt w0 w0.heap.size A dn c b) (hdn : dn ≤ 70000) (le : Int) (long : Bool) (hs : s.shut = true) :
    Calls Tryz.prog 18 #[.agg (rst a s), cmdV cla ins p1 p2 A dn c le long] w0 (RWr w0 a s A dn (Sec.wrap s ⟨cla, ins, p1, p2, b, le, long⟩) (Sec.wrapE s ⟨cla, ins, p1, p2, b, le, long⟩)) := by
  have HE : Hid (Sec.wrapE s ⟨cla, ins, p1, p2, b, le, long⟩ = 14) := Lib.hid (by unfold Sec.wrapE; rw [if_pos hs])
  rw [rst_shut hs]
  have HS := Lib.hid hs
  clear hs h
  have HH := Lib.hid H
  have hm := Mem.nil (fun _ => False) w0
  clear H hc
  unfold cch
  obtain ⟨E, ce, M, cm, R, cr, D, cd, C, cc⟩ := a
  dsimp only
  unfold cmdV
  go_enter Tryz.func18, Tryz.ntmps18
  go_wp2_with (first | go_skip | ((with_reducible show wpList _ _ _ _ _ (World.alloc _ _)); refine wpList_up hm ?_; clear hm; intro n w hn hn2 hk hm hd hd2 ho; (try rw [← hn]); replace hn := Nat.le_of_eq hn.symm) | ((first | ((with_reducible show wpList _ _ _ (Oper.mk _ (Op.box _ _) _ _ _ _ :: _) _ _); (refine bxA hm ?_; clear hm; intro n w hn hz hm ho; (try simp only [List.cons_append, List.nil_append] at hm))) | ((with_reducible show wpList _ _ _ (Oper.mk _ (Op.load _ _) _ _ _ _ :: _) _ _); first | (refine ldA hm ?_) | (refine laA hm ?_)) | ((with_reducible show wpList _ _ _ (Oper.mk _ (Op.store _ _ _) _ _ _ _ :: _) _ _); (refine stA hm ?_; clear hm; intro w hz hm ho)) | ((with_reducible show wpList _ _ _ (Oper.mk _ (Op.alloc _) _ _ _ _ :: _) _ _); (refine alA hm ?_; clear hm; intro n w hn hz hm ho; (try simp only [List.cons_append, List.nil_append] at hm)))); try simp only [Act.put, sxQ]))
  refine bodyPost_ret (results_row_row_tmp rfl _ _ _ 36 _ (0, 0) _ rfl (by exact hm.at_ 2 rfl) Tryz.underlying36 rfl (by kernel_rfl) _ 28 _ (0, 0) _ rfl (by exact hm.at_ 3 rfl) Tryz.underlying28 rfl (by kernel_rfl)) rfl ?_
  have h := RWr.bad (A := A) (dn := dn) HH.out HE.out (by decide) hm.low
  rw [rst_shut HS.out] at h
  exact h
set_option maxRecDepth 100000 in
theorem rwrap_plain (w0 : World) (a : ChS) (s : Sec.S) (H : RSt w0 a s) (hc : s.cnt < 200) (cla ins p1 p2 : Int) (A : Option Addr) (dn c : Nat) (b : List UInt8) (h : Byt w0 w0.heap.size A dn c b) (hdn : dn ≤ 70000) (le : Int) (long : Bool) (hs : s.shut = false) (hp : Sec.plainE ⟨cla, ins, p1, p2, b, le, long⟩ ≠ 0) :
    Calls Tryz.prog 18 #[.agg (rst a s), cmdV cla ins p1 p2 A dn c le long] w0 (RWr w0 a s A dn (Sec.wrap s ⟨cla, ins, p1, p2, b, le, long⟩) (Sec.wrapE s ⟨cla, ins, p1, p2, b, le, long⟩)) := by
  have HPL := Lib.hid (ref24_plain cla ins p1 p2 A dn c b h.1 le long)
  rw [rst_shut hs]
  have HS := Lib.hid hs
  have hE := Sec.wrapE_plain (x := ⟨cla, ins, p1, p2, b, le, long⟩) hs
  rw [if_pos hp] at hE
  generalize Sec.plainE ⟨cla, ins, p1, p2, b, le, long⟩ = k at *
  have i0 : (k != 0) = true := bne_iff_ne.2 hp
  have HE := Lib.hid hE
  have HNE := Lib.hid hp
  clear hs hp hE h
  have HH := Lib.hid H
  have hm := Mem.nil (fun _ => False) w0
  clear H hc
  unfold cch
  obtain ⟨E, ce, M, cm, R, cr, D, cd, C, cc⟩ := a
  dsimp only
  unfold cmdV at HPL ⊢
  go_enter Tryz.func18, Tryz.ntmps18
  go_wp2_with (first | go_skip | ((with_reducible show wpList _ _ _ _ _ (World.alloc _ _)); refine wpList_up hm ?_; clear hm; intro n w hn hn2 hk hm hd hd2 ho; (try rw [← hn]); replace hn := Nat.le_of_eq hn.symm) | ((first | ((with_reducible show wpList _ _ _ (Oper.mk _ (Op.box _ _) _ _ _ _ :: _) _ _); (refine bxA hm ?_; clear hm; intro n w hn hz hm ho; (try simp only [List.cons_append, List.nil_append] at hm))) | ((with_reducible show wpList _ _ _ (Oper.mk _ (Op.load _ _) _ _ _ _ :: _) _ _); first | (refine ldA hm ?_) | (refine laA hm ?_)) | ((with_reducible show wpList _ _ _ (Oper.mk _ (Op.store _ _ _) _ _ _ _ :: _) _ _); (refine stA hm ?_; clear hm; intro w hz hm ho)) | ((with_reducible show wpList _ _ _ (Oper.mk _ (Op.alloc _) _ _ _ _ :: _) _ _); (refine alA hm ?_; clear hm; intro n w hn hz hm ho; (try simp only [List.cons_append, List.nil_append] at hm)))); try simp only [Act.put, sxQ]) | (go_at_call 42; refine (HPL.out _).mono ?_; rintro e w2 ⟨rfl, hbl⟩; replace hm := hm.below hbl))
  refine bodyPost_ret (results_row_row_tmp rfl _ _ _ 36 _ (0, 0) _ rfl (by exact hm.at_ 2 rfl) Tryz.underlying36 rfl (by kernel_rfl) _ 28 _ (0, 0) _ rfl (by exact hm.at_ 3 rfl) Tryz.underlying28 rfl (by kernel_rfl)) rfl ?_
  have h := RWr.bad (A := A) (dn := dn) HH.out HE.out HNE.out hm.low
  rw [rst_shut HS.out] at h
  exact h
set_option maxRecDepth 100000 in
theorem rwrap_long (w0 : World) (a : ChS) (s : Sec.S) (H : RSt w0 a s) (hc : s.cnt < 200) (cla ins p1 p2 : Int) (A : Option Addr) (dn c : Nat) (b : List UInt8) (h : Byt w0 w0.heap.size A dn c b) (hdn : dn ≤ 70000) (le : Int) (long : Bool) (v1 : Bool) (hs : s.shut = false) (hp : Sec.plainE ⟨cla, ins, p1, p2, b, le, long⟩ = 0) (h1 : Sec.hb s.lvl 1 = v1) (hz : 65535 < Sec.sz dn (Sec.hb s.lvl 2) + (if v1 then 8 else 0)) :
    Calls Tryz.prog 18 #[.agg (rst a s), cmdV cla ins p1 p2 A dn c le long] w0 (RWr w0 a s A dn (Sec.wrap s ⟨cla, ins, p1, p2, b, le, long⟩) (Sec.wrapE s ⟨cla, ins, p1, p2, b, le, long⟩)) := by
  have HPL := Lib.hid (ref24_plain cla ins p1 p2 A dn c b h.1 le long)
  rw [rst_shut hs]
  have HS := Lib.hid hs
  rw [hp] at HPL
  have HB1 := Lib.hid (ref24_has H.ok.lvl (.inl rfl) h1)
  have HB2 := Lib.hid (ref24_has H.ok.lvl (.inr (.inl rfl)) (v := Sec.hb s.lvl 2) rfl)
  have hE := Sec.wrapE_plain (x := ⟨cla, ins, p1, p2, b, le, long⟩) hs
  rw [hp, if_neg (fun e => e rfl), if_pos (by rw [h1]; show 65535 < Sec.sz b.length _ + _; rw [h.1]; exact hz)] at hE
  have HE := Lib.hid hE
  have HZC := Lib.hid (ref24_size dn (by omega) v1 (Sec.hb s.lvl 2))
  generalize Sec.hb s.lvl 2 = v2 at *
  generalize Sec.sz dn v2 + (if v1 then 8 else 0) = z at *
  have i3 : decide ((65535 : Int) < (z : Int)) = true := decide_eq_true (by omega)
  generalize (z : Int) = zi at *
  clear hs hp hE h hz h1
  have HH := Lib.hid H
  have hm := Mem.nil (fun _ => False) w0
  clear H hc
  unfold cch
  obtain ⟨E, ce, M, cm, R, cr, D, cd, C, cc⟩ := a
  dsimp only
  unfold cmdV at HPL ⊢
  go_enter Tryz.func18, Tryz.ntmps18
  go_wp2_with (first | go_skip | ((with_reducible show wpList _ _ _ _ _ (World.alloc _ _)); refine wpList_up hm ?_; clear hm; intro n w hn hn2 hk hm hd hd2 ho; (try rw [← hn]); replace hn := Nat.le_of_eq hn.symm) | ((first | ((with_reducible show wpList _ _ _ (Oper.mk _ (Op.box _ _) _ _ _ _ :: _) _ _); (refine bxA hm ?_; clear hm; intro n w hn hz hm ho; (try simp only [List.cons_append, List.nil_append] at hm))) | ((with_reducible show wpList _ _ _ (Oper.mk _ (Op.load _ _) _ _ _ _ :: _) _ _); first | (refine ldA hm ?_) | (refine laA hm ?_)) | ((with_reducible show wpList _ _ _ (Oper.mk _ (Op.store _ _ _) _ _ _ _ :: _) _ _); (refine stA hm ?_; clear hm; intro w hz hm ho)) | ((with_reducible show wpList _ _ _ (Oper.mk _ (Op.alloc _) _ _ _ _ :: _) _ _); (refine alA hm ?_; clear hm; intro n w hn hz hm ho; (try simp only [List.cons_append, List.nil_append] at hm)))); try simp only [Act.put, sxQ]) | (go_at_call 42; refine (HPL.out _).mono ?_; rintro e w2 ⟨rfl, hbl⟩; replace hm := hm.below hbl) | ((with_reducible show Calls _ 43 #[_, Value.int _ 1] _ _); refine (HB1.out _).mono ?_; rintro e w2 ⟨rfl, rfl⟩) | ((with_reducible show Calls _ 43 #[_, Value.int _ 2] _ _); refine (HB2.out _).mono ?_; rintro e w2 ⟨rfl, rfl⟩) | (go_at_call 44; refine (HZC.out _).mono ?_; rintro e w2 ⟨rfl, rfl⟩))
  refine bodyPost_ret (results_row_row_tmp rfl _ _ _ 36 _ (0, 0) _ rfl (by exact hm.at_ 2 rfl) Tryz.underlying36 rfl (by kernel_rfl) _ 28 _ (0, 0) _ rfl (by exact hm.at_ 3 rfl) Tryz.underlying28 rfl (by kernel_rfl)) rfl ?_
  have h := RWr.bad (A := A) (dn := dn) HH.out HE.out (by decide) hm.low
  rw [rst_shut HS.out] at h
  exact h
set_option maxRecDepth 100000 in
theorem rwrap_nomac (w0 : World) (a : ChS) (s : Sec.S) (H : RSt w0 a s) (hc : s.cnt < 200) (cla ins p1 p2 : Int) (A : Option Addr) (dn c : Nat) (b : List UInt8) (h : Byt w0 w0.heap.size A dn c b) (hdn : dn ≤ 70000) (le : Int) (long : Bool) (hs : s.shut = false) (hp : Sec.plainE ⟨cla, ins, p1, p2, b, le, long⟩ = 0) (h1 : Sec.hb s.lvl 1 = false) (hz : Sec.sz dn (Sec.hb s.lvl 2) + (if Sec.hb s.lvl 1 then 8 else 0) ≤ 65535)  :
    Calls Tryz.prog 18 #[.agg (rst a s), cmdV cla ins p1 p2 A dn c le long] w0 (RWr w0 a s A dn (Sec.wrap s ⟨cla, ins, p1, p2, b, le, long⟩) (Sec.wrapE s ⟨cla, ins, p1, p2, b, le, long⟩)) := by
  have HPL := Lib.hid (ref24_plain cla ins p1 p2 A dn c b h.1 le long)
  rw [rst_shut hs]
  have HS := Lib.hid hs
  rw [hp] at HPL
  have HB1 := Lib.hid (ref24_has H.ok.lvl (.inl rfl) h1)
  have HB2 := Lib.hid (ref24_has H.ok.lvl (.inr (.inl rfl)) (v := Sec.hb s.lvl 2) rfl)
  have hE := Sec.wrapE_plain (x := ⟨cla, ins, p1, p2, b, le, long⟩) hs
  rw [hp, if_neg (fun e => e rfl), if_neg (by show ¬ 65535 < Sec.sz b.length _ + _; rw [h.1]; omega)] at hE
  have HE := Lib.hid hE
  have HZC := Lib.hid (ref24_size dn (by omega) (Sec.hb s.lvl 1) (Sec.hb s.lvl 2))
  rw [h1] at HZC hz
  generalize hv2 : Sec.hb s.lvl 2 = v2 at *
  generalize Sec.sz dn v2 + (if false then 8 else 0) = z at *
  have i3 : decide ((65535 : Int) < (z : Int)) = false := decide_eq_false (by omega)
  generalize (z : Int) = zi at *
  have HX := Lib.hid h
  have hcn : 0 ≤ (s.cnt : Int) ∧ (s.cnt : Int) < 200 := by omega
  obtain ⟨hcn0, hcn1⟩ := hcn
  obtain ⟨kc, hkc⟩ : ∃ kc : Nat, kc = s.cnt + 1 := ⟨_, rfl⟩
  have HKC := Lib.hid hkc
  have i4 : (s.cnt : Int) + 1 = (kc : Int) := by omega
  have HH1 := Lib.hid h1
  clear hs hp hE h hz h1 hkc hv2
  have HH := Lib.hid H
  have hm := Mem.nil (fun _ => False) w0
  clear H hc
  unfold cch
  obtain ⟨E, ce, M, cm, R, cr, D, cd, C, cc⟩ := a
  dsimp only
  unfold cmdV at HPL ⊢
  go_enter Tryz.func18, Tryz.ntmps18
  go_wp2_with (first | go_skip | ((with_reducible show wpList _ _ _ _ _ (World.alloc _ _)); refine wpList_up hm ?_; clear hm; intro n w hn hn2 hk hm hd hd2 ho; (try rw [← hn]); replace hn := Nat.le_of_eq hn.symm) | ((first | ((with_reducible show wpList _ _ _ (Oper.mk _ (Op.box _ _) _ _ _ _ :: _) _ _); (refine bxA hm ?_; clear hm; intro n w hn hz hm ho; (try simp only [List.cons_append, List.nil_append] at hm))) | ((with_reducible show wpList _ _ _ (Oper.mk _ (Op.load _ _) _ _ _ _ :: _) _ _); first | (refine ldA hm ?_) | (refine laA hm ?_)) | ((with_reducible show wpList _ _ _ (Oper.mk _ (Op.store _ _ _) _ _ _ _ :: _) _ _); (refine stA hm ?_; clear hm; intro w hz hm ho)) | ((with_reducible show wpList _ _ _ (Oper.mk _ (Op.alloc _) _ _ _ _ :: _) _ _); (refine alA hm ?_; clear hm; intro n w hn hz hm ho; (try simp only [List.cons_append, List.nil_append] at hm)))); try simp only [Act.put, sxQ]) | (go_at_call 42; refine (HPL.out _).mono ?_; rintro e w2 ⟨rfl, hbl⟩; replace hm := hm.below hbl) | ((with_reducible show Calls _ 43 #[_, Value.int _ 1] _ _); refine (HB1.out _).mono ?_; rintro e w2 ⟨rfl, rfl⟩) | ((with_reducible show Calls _ 43 #[_, Value.int _ 2] _ _); refine (HB2.out _).mono ?_; rintro e w2 ⟨rfl, rfl⟩) | (go_at_call 44; refine (HZC.out _).mono ?_; rintro e w2 ⟨rfl, rfl⟩))
  have hw9 := (hm.drew.wo 3).wo 2
  simp only [List.eraseIdx_cons_zero, List.eraseIdx_cons_succ] at hw9
  refine wp_region_noPanic ?_
  refine wp_region_held_drew (S := MemS _ _ _ _) (by kernel_rfl) (MemS.of hw9) (fun hHeld => ?_)
  refine wpAnyH_fresh (by repeat (first | apply Fresh.a | apply Fresh.b)) ?_
  clear hw9
  replace hm := hm.drew
  iterate 2 (first | (refine takeN 0 hHeld ?_) | (refine takeY 0 ?_ hHeld ?_ ?_; rotate_left 1; (first | (intro w9 h9; (with_reducible show (execOp _ (Oper.mk _ (Op.load _ _) _ _ _ _)).run _ _ = _); first | exact h9.ldA | exact h9.laA) | focus (intro w9 hSw; go_simp; (try (with_reducible rfl)); done))); try simp only [Act.put, sxQ])
  refine wpAnyH_ready (rs := [2]) (by kernel_rfl) (by simp) ?_
  refine AllReadyH.cons2 (by simp only [sxN]; first | done | exact rfl) (fun K hK => ?_)
  refine stB hm ?_
  clear hm; intro w hz hm ho
  refine hK.out _ _ (MemS.of ((hm.wo 3).wo 2)) (fun hHeld => ?_)
  clear hK K
  try simp only [Act.put, sxQ]
  refine wpAnyH_ready (rs := [3]) (by kernel_rfl) (by simp) ?_
  refine AllReadyH.cons2 (by simp only [sxN]; first | done | exact rfl) (fun K hK => ?_)
  refine stB hm ?_
  clear hm; intro w hz hm ho
  refine hK.out _ _ (MemS.of ((hm.wo 3).wo 2)) (fun hHeld => ?_)
  clear hK K
  try simp only [Act.put, sxQ]
  iterate 1 (first | (refine takeN 4 hHeld ?_) | (refine takeY 4 ?_ hHeld ?_ ?_; rotate_left 1; (first | (intro w9 h9; (with_reducible show (execOp _ (Oper.mk _ (Op.load _ _) _ _ _ _)).run _ _ = _); first | exact h9.ldA) | focus (intro w9 hSw; go_simp; (try (with_reducible rfl)); done))); try simp only [Act.put, sxQ])
  refine wpAnyH_done (by kernel_rfl) ?_ _
  refine NoPanic.normal ?_
  go_wp2_with fail
  refine bodyPost_ret (results_row_row_tmp rfl _ _ _ 36 _ (0, 0) _ rfl (by exact hm.at_ 2 rfl) Tryz.underlying36 rfl (by kernel_rfl) _ 28 _ (0, 0) _ rfl (by exact hm.at_ 3 rfl) Tryz.underlying28 rfl (by kernel_rfl)) rfl ?_
  rw [Sec.wrap_no HE.out HH1.out, HE.out]
  have hk := HKC.out
  subst hk
  have hl := HX.out.1
  subst hl
  exact ⟨⟨E, ce, M, cm, R, cr, D, cd, C, cc⟩, A, c, by rw [rst_shut (s := { s with cnt := s.cnt + 1, exp := true }) HS.out]; rfl, (HH.out.below hm.low).flags (s.cnt + 1) true s.shut, HX.out.low hm, fun F h => rst_far h, fun F h hn x e => .inl (h hn x e), hm.low⟩
set_option maxRecDepth 100000 in
theorem rwrap_enc (w0 : World) (a : ChS) (s : Sec.S) (H : RSt w0 a s) (hc : s.cnt < 200) (cla ins p1 p2 : Int) (A : Option Addr) (dn c : Nat) (b : List UInt8) (h : Byt w0 w0.heap.size A dn c b) (hdn : dn ≤ 70000) (le : Int) (long : Bool) (hs : s.shut = false) (hp : Sec.plainE ⟨cla, ins, p1, p2, b, le, long⟩ = 0) (h1 : Sec.hb s.lvl 1 = true) (h2 : Sec.hb s.lvl 2 = true) (hz : Sec.sz dn (Sec.hb s.lvl 2) + (if Sec.hb s.lvl 1 then 8 else 0) ≤ 65535)  :
    Calls Tryz.prog 18 #[.agg (rst a s), cmdV cla ins p1 p2 A dn c le long] w0 (RWr w0 a s A dn (Sec.wrap s ⟨cla, ins, p1, p2, b, le, long⟩) (Sec.wrapE s ⟨cla, ins, p1, p2, b, le, long⟩)) := by
  have HPL := Lib.hid (ref24_plain cla ins p1 p2 A dn c b h.1 le long)
  rw [rst_shut hs]
  have HS := Lib.hid hs
  rw [hp] at HPL
  have HB1 := Lib.hid (ref24_has H.ok.lvl (.inl rfl) h1)
  have HB2 := Lib.hid (ref24_has H.ok.lvl (.inr (.inl rfl)) (v := Sec.hb s.lvl 2) rfl)
  have hE := Sec.wrapE_plain (x := ⟨cla, ins, p1, p2, b, le, long⟩) hs
  rw [hp, if_neg (fun e => e rfl), if_neg (by show ¬ 65535 < Sec.sz b.length _ + _; rw [h.1]; omega)] at hE
  have HE := Lib.hid hE
  have HZC := Lib.hid (ref24_size dn (by omega) (Sec.hb s.lvl 1) (Sec.hb s.lvl 2))
  rw [h1] at HZC hz
  generalize hv2 : Sec.hb s.lvl 2 = v2 at *
  generalize Sec.sz dn v2 + (if true then 8 else 0) = z at *
  have i3 : decide ((65535 : Int) < (z : Int)) = false := decide_eq_false (by omega)
  generalize (z : Int) = zi at *
  have HX := Lib.hid h
  have hcn : 0 ≤ (s.cnt : Int) ∧ (s.cnt : Int) < 200 := by omega
  obtain ⟨hcn0, hcn1⟩ := hcn
  obtain ⟨kc, hkc⟩ : ∃ kc : Nat, kc = s.cnt + 1 := ⟨_, rfl⟩
  have HKC := Lib.hid hkc
  have i4 : (s.cnt : Int) + 1 = (kc : Int) := by omega
  obtain ⟨hck, hok, h4, h16⟩ := Sec.plain_facts hp
  dsimp only at hok h4 h16
  obtain ⟨hle0, hle1⟩ := chk_le (show Apd.chk cla ins p1 p2 b.length le long = 0 from hck)
  have HCL := Lib.hid (fun u => ref04_Class cla u)
  rw [cls_plain hok h4 h16, hok] at HCL
  have hby := fun u => ref04_Byte (cla % 4) true false (cla / 128 == 1) u
  rw [(cby_add hok h4 h16).1, (cby_add hok h4 h16).2] at hby
  have HBY := Lib.hid hby
  have HH1 := Lib.hid h1
  have HBL := Lib.hid h.1
  subst h2
  unfold infoV at HCL HBY
  generalize (cla / 128 == 1) = o128 at *
  have hwl := Sec.wrapD_length s ⟨cla, ins, p1, p2, b, le, long⟩ H.ok.enc
  have hwd : Sec.wrapD s ⟨cla, ins, p1, p2, b, le, long⟩ = Sec.hide { s with cnt := s.cnt + 1 } false b := by unfold Sec.wrapD; rw [if_pos hv2]
  rw [hwd, hv2] at hwl
  have hwl : (Sec.hide { s with cnt := s.cnt + 1 } false b).length = Sec.sz b.length true := hwl
  have hhi : ∀ u, Below w0.heap.size w0 u → Calls Tryz.prog 47 #[.agg (cch a s.lvl kc true false), .int .i64 0, .slice A dn c] u (ORes u (Sec.hide { s with cnt := s.cnt + 1 } false b)) := fun u hu => by
    have h9 := ref24_hide u a { s with cnt := s.cnt + 1, exp := true } ((H.below hu).flags (s.cnt + 1) true s.shut) (by show s.cnt + 1 < 256; omega) A dn c b ((h.below hu).more hu.size) (by omega) false
    rw [rst_shut (s := { s with cnt := s.cnt + 1, exp := true }) hs] at h9
    rw [hkc]
    exact h9
  generalize Sec.hide { s with cnt := s.cnt + 1 } false b = X5 at *
  obtain ⟨m5, hm5⟩ : ∃ m, X5.length = m := ⟨_, rfl⟩
  have hsz9 : Sec.sz b.length true ≤ dn + 8 := by rw [h.1]; unfold Sec.sz; split <;> omega
  have HXL := Lib.hid hm5
  have HHI := Lib.hid (fun u hu => (hhi u hu).mono fun e u' h9 => h9.len hm5)
  have hm9 : m5 ≤ 70008 := by omega
  have HHD := Lib.hid (fun A' c' => ref24_header (cla + 4) ins p1 p2 A' m5 c' le long ((m5 : Int) + 8) (by omega) (by omega) hle0 hle1)
  have HWD := Lib.hid hwd
  have HML := Lib.hid (Sec.cmac_length s (cla + 4) ins p1 p2 le X5 H.ok)
  unfold cch at HHI
  clear hwl hwd hhi hm5 hsz9
  obtain ⟨lg, hlg⟩ : ∃ lg, decide ((255 : Int) < (m5 : Int) + 8) = lg := ⟨_, rfl⟩
  have HLG := Lib.hid hlg
  clear hs hp hE h hz h1 hv2 hck hok h4 h16 hkc hby
  have HH := Lib.hid H
  have HM := Lib.hid H.mac
  have HCH := Lib.hid H.chain
  have HC := Lib.hid (Scn.start w0)
  have hm := HC.out.rebase
  clear H hc
  unfold cch
  obtain ⟨E, ce, M, cm, R, cr, D, cd, C, cc⟩ := a
  dsimp only at HM HCH ⊢
  unfold cmdV at HPL HHD ⊢
  cases long
  all_goals
    go_enter Tryz.func18, Tryz.ntmps18
    go_wp2_with (first | go_skip | ((with_reducible show wpList _ _ _ _ _ (World.alloc _ _)); refine wpList_up hm ?_; clear hm; intro n w hn hn2 hk hm hd hd2 ho; (try rw [← hn]); replace hn := Nat.le_of_eq hn.symm) | ((first | ((with_reducible show wpList _ _ _ (Oper.mk _ (Op.box _ _) _ _ _ _ :: _) _ _); (refine bxA hm ?_; clear hm; intro n w hn hz hm ho; (try simp only [List.cons_append, List.nil_append] at hm))) | ((with_reducible show wpList _ _ _ (Oper.mk _ (Op.load _ _) _ _ _ _ :: _) _ _); first | (refine ldA hm ?_) | (refine laA hm ?_)) | ((with_reducible show wpList _ _ _ (Oper.mk _ (Op.store _ _ _) _ _ _ _ :: _) _ _); (refine stA hm ?_; clear hm; intro w hz hm ho)) | ((with_reducible show wpList _ _ _ (Oper.mk _ (Op.alloc _) _ _ _ _ :: _) _ _); (refine alA hm ?_; clear hm; intro n w hn hz hm ho; (try simp only [List.cons_append, List.nil_append] at hm)))); try simp only [Act.put, sxQ]) | (go_at_call 42; refine (HPL.out _).mono ?_; rintro e w2 ⟨rfl, hbl⟩; replace hm := hm.below hbl) | ((with_reducible show Calls _ 43 #[_, Value.int _ 1] _ _); refine (HB1.out _).mono ?_; rintro e w2 ⟨rfl, rfl⟩) | ((with_reducible show Calls _ 43 #[_, Value.int _ 2] _ _); refine (HB2.out _).mono ?_; rintro e w2 ⟨rfl, rfl⟩) | (go_at_call 44; refine (HZC.out _).mono ?_; rintro e w2 ⟨rfl, rfl⟩) | (go_at_call 45; refine (HCL.out _).mono ?_; rintro e w2 ⟨rfl, hbl⟩; replace hm := hm.below hbl) | (go_at_call 46; refine (HBY.out _).mono ?_; rintro e w2 ⟨rfl, hbl⟩; replace hm := hm.below hbl) | (go_at_call 47; refine (HHI.out _ (HC.out.resync hm).low).mono ?_; rintro e w4 ⟨A5e, c5e, rfl, hown, hbl⟩; replace hm := hm.got hbl hown; clear hown))
    refine wp_region_noPanic ?_
    refine wp_region_held_drew (S := KnS _ _) (by kernel_rfl) (KnS.of hm.drew (Rngs.nil _)) (fun hHeld => ?_)
    refine wpAnyH_fresh (by repeat (first | apply Fresh.a | apply Fresh.b)) ?_
    replace hm := hm.drew
    iterate 7 (first | (refine takeN 0 hHeld ?_) | (refine takeY 0 ?_ hHeld ?_ ?_; rotate_left 1; (first | (intro w9 h9; (with_reducible show (execOp _ (Oper.mk _ (Op.load _ _) _ _ _ _)).run _ _ = _); first | exact h9.ldA | exact h9.lcA | exact h9.laA | exact h9.lrA) | focus (intro w9 hSw; go_simp; (try (with_reducible rfl)); done))); try simp only [Act.put, sxQ])
    iterate 2 (first | (refine takeN 8 hHeld ?_) | (refine takeY 8 ?_ hHeld ?_ ?_; rotate_left 1; (first | (intro w9 h9; (with_reducible show (execOp _ (Oper.mk _ (Op.load _ _) _ _ _ _)).run _ _ = _); first | exact h9.ldA | exact h9.lcA | exact h9.laA | exact h9.lrA) | focus (intro w9 hSw; go_simp; (try (with_reducible rfl)); done))); try simp only [Act.put, sxQ])
    refine wpAnyH_ready (rs := [7]) (by kernel_rfl) (by simp) ?_
    refine AllReadyH.cons2 (by simp only [sxN]; first | done | exact rfl) (fun K hK => ?_)
    rw [if_pos (by rfl)]
    go_simp
    refine (HHD.out _ _ _).mono ?_
    rintro e w5 ⟨A5, c5, rfl, hown, hbl⟩
    replace hm := hm.got hbl hown
    clear hown
    go_simp
    refine hK.out _ _ (KnS.of hm (Rngs.nil _)) (fun hHeld => ?_)
    clear hK K
    try simp only [Act.put, sxQ]
    refine wpAnyH_ready (rs := [10]) (by kernel_rfl) (by simp) ?_
    refine AllReadyH.cons2 (by simp only [sxN]; first | done | exact rfl) (fun K hK => ?_)
    rw [if_pos (by rfl)]
    go_simp
    refine K_up hm ?_
    intro n6 w6 hn hn6s hn6 hm1 hn6d hn6d2 hb6
    first | rw [← hn] | rw [← (show n6 = w5.heap.size from hn)]
    clear hn hm
    have hm := hm1.row hn6 hn6s hn6d hn6d2 1 2 [.slice A5 10 c5, .slice A5e m5 c5e] rfl rfl (by unfold maxLen; omega)
    clear hm1
    refine hK.out _ _ (KnS.of hm (Rngs.nil _)) (fun hHeld => ?_)
    clear hK K
    try simp only [Act.put, sxQ]
    refine wpAnyH_ready (rs := [11]) (by kernel_rfl) (by simp) ?_
    refine AllReadyH.cons2 (by simp only [sxN]; first | done | exact rfl) (fun K hK => ?_)
    rw [if_pos (by rfl)]
    go_simp
    refine (rjoin_list n6 [⟨A5, 10, c5, Sec.hdr (cla + 4) ins p1 p2 ((m5 : Int) + 8) le⟩, ⟨A5e, m5, c5e, X5⟩] 2 (m5 + 10) rfl _ (by exact (hm.sl_ 2 rfl).row) (by
      intro v hv
      simp only [List.mem_cons, List.not_mem_nil, or_false] at hv
      rcases hv with rfl | rfl
      · exact (HC.out.resync hm).byt 1 rfl
      · exact (HC.out.resync hm).byt 0 rfl) (by simp [joined, Sec.hdr, Sec.three, HXL.out]) (by omega) (by omega)).mono ?_
    rintro e w7 ⟨A7, c7, rfl, hown, hbl⟩
    replace hm := hm.got hbl hown
    clear hown
    go_simp
    refine hK.out _ _ (KnS.of hm (Rngs.nil _)) (fun hHeld => ?_)
    clear hK K
    try simp only [Act.put, sxQ]
    refine wpAnyH_ready (rs := [12]) (by kernel_rfl) (by simp) ?_
    refine AllReadyH.cons2 (by simp only [sxN]; first | done | exact rfl) (fun K hK => ?_)
    rw [if_pos (by rfl)]
    go_simp
    refine (rmac_call M C A7 (m5 + 10) cm cc c7 s.mac s.chain (joined [⟨A5, 10, c5, Sec.hdr (cla + 4) ins p1 p2 ((m5 : Int) + 8) le⟩, ⟨A5e, m5, c5e, X5⟩]) _ ((HC.out.resync hm).old HM.out) ((HC.out.resync hm).old HCH.out) ((HC.out.resync hm).byt 3 rfl) (by omega)).mono ?_
    rintro e w8 ⟨A8, c8, rfl, hby, hnew, hbl8⟩
    rw [show Mod.mcB s.mac s.chain (joined [⟨A5, 10, c5, Sec.hdr (cla + 4) ins p1 p2 ((m5 : Int) + 8) le⟩, ⟨A5e, m5, c5e, X5⟩]) = Sec.cmac s (cla + 4) ins p1 p2 le X5 by simp [joined, Sec.cmac, Sec.hdr, HXL.out]] at hby
    have HN8 := Lib.hid (fun x (e : A8 = some x) => Nat.le_trans (HC.out.resync hm).size (hnew x e))
    have hc2 := (HC.out.resync hm).fresh hbl8 (bytSup hby) (fun q hq => by obtain ⟨x, e, rfl⟩ := blks_lone hq; exact .inl (hnew x e))
    clear hby hnew
    clear HC hm
    simp only [List.nil_append, List.cons_append, List.set_cons_zero, List.set_cons_succ] at hc2
    have HC := Lib.hid hc2
    clear hc2
    have hm := HC.out.rebase
    go_simp
    refine hK.out _ _ (KnS.of hm (Rngs.nil _)) (fun hHeld => ?_)
    clear hK K
    try simp only [Act.put, sxQ]
    iterate 5 (first | (refine takeN 13 hHeld ?_) | (refine takeY 13 ?_ hHeld ?_ ?_; rotate_left 1; (first | (intro w9 h9; (with_reducible show (execOp _ (Oper.mk _ (Op.load _ _) _ _ _ _)).run _ _ = _); first | exact h9.ldA | exact h9.lcA | exact h9.laA | exact h9.lrA) | focus (intro w9 hSw; go_simp; (try (with_reducible rfl)); done))); try simp only [Act.put, sxQ])
    refine wpAnyH_done (by kernel_rfl) ?_ _
    refine NoPanic.normal ?_
    go_wp2_with (first | go_skip | ((with_reducible show wpList _ _ _ _ _ (World.alloc _ _)); refine wpList_up hm ?_; clear hm; intro n w hn hn2 hk hm hd hd2 ho; (try rw [← hn]); replace hn := Nat.le_of_eq hn.symm) | ((first | ((with_reducible show wpList _ _ _ (Oper.mk _ (Op.box _ _) _ _ _ _ :: _) _ _); (refine bxA hm ?_; clear hm; intro n w hn hz hm ho; (try simp only [List.cons_append, List.nil_append] at hm))) | ((with_reducible show wpList _ _ _ (Oper.mk _ (Op.load _ _) _ _ _ _ :: _) _ _); first | (refine ldA hm ?_) | (refine laA hm ?_)) | ((with_reducible show wpList _ _ _ (Oper.mk _ (Op.store _ _ _) _ _ _ _ :: _) _ _); (refine stA hm ?_; clear hm; intro w hz hm ho)) | ((with_reducible show wpList _ _ _ (Oper.mk _ (Op.alloc _) _ _ _ _ :: _) _ _); (refine alA hm ?_; clear hm; intro n w hn hz hm ho; (try simp only [List.cons_append, List.nil_append] at hm)))); try simp only [Act.put, sxQ]))
    have hm := hm.row hk hn2 hd hd2 1 2 [.slice A5e m5 c5e, .slice A8 8 c8] rfl rfl (by unfold maxLen; omega)
    clear hk hd hd2
    go_at_call 49
    refine (rjoin_list n [⟨A5e, m5, c5e, X5⟩, ⟨A8, 8, c8, Sec.cmac s (cla + 4) ins p1 p2 le X5⟩] 2 (m5 + 8) rfl _ (by exact (hm.sl_ 0 rfl).row) (by
      intro v hv
      simp only [List.mem_cons, List.not_mem_nil, or_false] at hv
      rcases hv with rfl | rfl
      · exact (HC.out.resync hm).byt 0 rfl
      · exact (HC.out.resync hm).val 0 rfl) (by simp [joined, HXL.out, HML.out]) (by omega) (by omega)).mono ?_
    rintro e w9 ⟨A9, c9, rfl, hown, hbl⟩
    rw [show joined [⟨A5e, m5, c5e, X5⟩, ⟨A8, 8, c8, Sec.cmac s (cla + 4) ins p1 p2 le X5⟩] = X5 ++ Sec.cmac s (cla + 4) ins p1 p2 le X5 by simp [joined]] at hown
    replace hm := hm.got hbl hown
    clear hown
    go_wp2_with (first | go_skip | ((with_reducible show wpList _ _ _ _ _ (World.alloc _ _)); refine wpList_up hm ?_; clear hm; intro n w hn hn2 hk hm hd hd2 ho; (try rw [← hn]); replace hn := Nat.le_of_eq hn.symm) | ((first | ((with_reducible show wpList _ _ _ (Oper.mk _ (Op.box _ _) _ _ _ _ :: _) _ _); (refine bxA hm ?_; clear hm; intro n w hn hz hm ho; (try simp only [List.cons_append, List.nil_append] at hm))) | ((with_reducible show wpList _ _ _ (Oper.mk _ (Op.load _ _) _ _ _ _ :: _) _ _); first | (refine ldA hm ?_) | (refine laA hm ?_)) | ((with_reducible show wpList _ _ _ (Oper.mk _ (Op.store _ _ _) _ _ _ _ :: _) _ _); (refine stA hm ?_; clear hm; intro w hz hm ho)) | ((with_reducible show wpList _ _ _ (Oper.mk _ (Op.alloc _) _ _ _ _ :: _) _ _); (refine alA hm ?_; clear hm; intro n w hn hz hm ho; (try simp only [List.cons_append, List.nil_append] at hm)))); try simp only [Act.put, sxQ]))
    have hw9 := (hm.drew.wo 3).wo 2
    simp only [List.eraseIdx_cons_zero, List.eraseIdx_cons_succ] at hw9
    refine wp_region_noPanic ?_
    refine wp_region_held_drew (S := MemS _ _ _ _) (by kernel_rfl) (MemS.of hw9) (fun hHeld => ?_)
    refine wpAnyH_fresh (by repeat (first | apply Fresh.a | apply Fresh.b)) ?_
    clear hw9
    replace hm := hm.drew
    iterate 2 (first | (refine takeN 0 hHeld ?_) | (refine takeY 0 ?_ hHeld ?_ ?_; rotate_left 1; (first | (intro w9 h9; (with_reducible show (execOp _ (Oper.mk _ (Op.load _ _) _ _ _ _)).run _ _ = _); first | exact h9.ldA | exact h9.laA) | focus (intro w9 hSw; go_simp; (try (with_reducible rfl)); done))); try simp only [Act.put, sxQ])
    refine wpAnyH_ready (rs := [2]) (by kernel_rfl) (by simp) ?_
    refine AllReadyH.cons2 (by simp only [sxN]; first | done | exact rfl) (fun K hK => ?_)
    refine stB hm ?_
    clear hm; intro w hz hm ho
    refine hK.out _ _ (MemS.of ((hm.wo 3).wo 2)) (fun hHeld => ?_)
    clear hK K
    try simp only [Act.put, sxQ]
    refine wpAnyH_ready (rs := [3]) (by kernel_rfl) (by simp) ?_
    refine AllReadyH.cons2 (by simp only [sxN]; first | done | exact rfl) (fun K hK => ?_)
    refine stB hm ?_
    clear hm; intro w hz hm ho
    refine hK.out _ _ (MemS.of ((hm.wo 3).wo 2)) (fun hHeld => ?_)
    clear hK K
    try simp only [Act.put, sxQ]
    iterate 1 (first | (refine takeN 4 hHeld ?_) | (refine takeY 4 ?_ hHeld ?_ ?_; rotate_left 1; (first | (intro w9 h9; (with_reducible show (execOp _ (Oper.mk _ (Op.load _ _) _ _ _ _)).run _ _ = _); first | exact h9.ldA) | focus (intro w9 hSw; go_simp; (try (with_reducible rfl)); done))); try simp only [Act.put, sxQ])
    refine wpAnyH_done (by kernel_rfl) ?_ _
    refine NoPanic.normal ?_
    go_wp2_with fail
    refine bodyPost_ret (results_row_row_tmp rfl _ _ _ 36 _ (0, 0) _ rfl (by exact hm.at_ 2 rfl) Tryz.underlying36 rfl (by kernel_rfl) _ 28 _ (0, 0) _ rfl (by exact hm.at_ 3 rfl) Tryz.underlying28 rfl (by kernel_rfl)) rfl ?_
    have hk := HKC.out
    subst hk
    exact RWr.mac HH.out HS.out HE.out HH1.out HWD.out rfl (by rw [List.length_append, HXL.out, HML.out]) ((HC.out.resync hm).cal.mem.own_ 5 rfl) ((HC.out.resync hm).val 0 rfl) HN8.out (HC.out.resync hm).low (by first | rfl | (rw [← HLG.out]; simp only [Bool.false_or]; exact decide_eq_decide.2 (by omega)))
set_option maxRecDepth 100000 in
theorem rwrap_mac (w0 : World) (a : ChS) (s : Sec.S) (H : RSt w0 a s) (hc : s.cnt < 200) (cla ins p1 p2 : Int) (A : Option Addr) (dn c : Nat) (b : List UInt8) (h : Byt w0 w0.heap.size A dn c b) (hdn : dn ≤ 70000) (le : Int) (long : Bool) (hs : s.shut = false) (hp : Sec.plainE ⟨cla, ins, p1, p2, b, le, long⟩ = 0) (h1 : Sec.hb s.lvl 1 = true) (h2 : Sec.hb s.lvl 2 = false) (hz : Sec.sz dn (Sec.hb s.lvl 2) + (if Sec.hb s.lvl 1 then 8 else 0) ≤ 65535)  :
    Calls Tryz.prog 18 #[.agg (rst a s), cmdV cla ins p1 p2 A dn c le long] w0 (RWr w0 a s A dn (Sec.wrap s ⟨cla, ins, p1, p2, b, le, long⟩) (Sec.wrapE s ⟨cla, ins, p1, p2, b, le, long⟩)) := by
  have HPL := Lib.hid (ref24_plain cla ins p1 p2 A dn c b h.1 le long)
  rw [rst_shut hs]
  have HS := Lib.hid hs
  rw [hp] at HPL
  have HB1 := Lib.hid (ref24_has H.ok.lvl (.inl rfl) h1)
  have HB2 := Lib.hid (ref24_has H.ok.lvl (.inr (.inl rfl)) (v := Sec.hb s.lvl 2) rfl)
  have hE := Sec.wrapE_plain (x := ⟨cla, ins, p1, p2, b, le, long⟩) hs
  rw [hp, if_neg (fun e => e rfl), if_neg (by show ¬ 65535 < Sec.sz b.length _ + _; rw [h.1]; omega)] at hE
  have HE := Lib.hid hE
  have HZC := Lib.hid (ref24_size dn (by omega) (Sec.hb s.lvl 1) (Sec.hb s.lvl 2))
  rw [h1] at HZC hz
  generalize hv2 : Sec.hb s.lvl 2 = v2 at *
  generalize Sec.sz dn v2 + (if true then 8 else 0) = z at *
  have i3 : decide ((65535 : Int) < (z : Int)) = false := decide_eq_false (by omega)
  generalize (z : Int) = zi at *
  have HX := Lib.hid h
  have hcn : 0 ≤ (s.cnt : Int) ∧ (s.cnt : Int) < 200 := by omega
  obtain ⟨hcn0, hcn1⟩ := hcn
  obtain ⟨kc, hkc⟩ : ∃ kc : Nat, kc = s.cnt + 1 := ⟨_, rfl⟩
  have HKC := Lib.hid hkc
  have i4 : (s.cnt : Int) + 1 = (kc : Int) := by omega
  obtain ⟨hck, hok, h4, h16⟩ := Sec.plain_facts hp
  dsimp only at hok h4 h16
  obtain ⟨hle0, hle1⟩ := chk_le (show Apd.chk cla ins p1 p2 b.length le long = 0 from hck)
  have HCL := Lib.hid (fun u => ref04_Class cla u)
  rw [cls_plain hok h4 h16, hok] at HCL
  have hby := fun u => ref04_Byte (cla % 4) true false (cla / 128 == 1) u
  rw [(cby_add hok h4 h16).1, (cby_add hok h4 h16).2] at hby
  have HBY := Lib.hid hby
  have HH1 := Lib.hid h1
  have HBL := Lib.hid h.1
  subst h2
  unfold infoV at HCL HBY
  generalize (cla / 128 == 1) = o128 at *
  have HML := Lib.hid (Sec.cmac_length s (cla + 4) ins p1 p2 le b H.ok)
  have HHD := Lib.hid (ref24_header (cla + 4) ins p1 p2 A dn c le long ((dn : Int) + 8) (by omega) (by omega) hle0 hle1)
  have HWD : Hid (Sec.wrapD s ⟨cla, ins, p1, p2, b, le, long⟩ = b) := Lib.hid (by unfold Sec.wrapD; rw [if_neg (by rw [hv2]; decide)])
  obtain ⟨lg, hlg⟩ : ∃ lg, decide ((255 : Int) < (dn : Int) + 8) = lg := ⟨_, rfl⟩
  have HLG := Lib.hid hlg
  clear hs hp hE h hz h1 hv2 hck hok h4 h16 hkc hby
  have HH := Lib.hid H
  have HM := Lib.hid H.mac
  have HCH := Lib.hid H.chain
  have HC := Lib.hid (Scn.start w0)
  have hm := HC.out.rebase
  clear H hc
  unfold cch
  obtain ⟨E, ce, M, cm, R, cr, D, cd, C, cc⟩ := a
  dsimp only at HM HCH ⊢
  unfold cmdV at HPL HHD ⊢
  cases long
  all_goals
    go_enter Tryz.func18, Tryz.ntmps18
    go_wp2_with (first | go_skip | ((with_reducible show wpList _ _ _ _ _ (World.alloc _ _)); refine wpList_up hm ?_; clear hm; intro n w hn hn2 hk hm hd hd2 ho; (try rw [← hn]); replace hn := Nat.le_of_eq hn.symm) | ((first | ((with_reducible show wpList _ _ _ (Oper.mk _ (Op.box _ _) _ _ _ _ :: _) _ _); (refine bxA hm ?_; clear hm; intro n w hn hz hm ho; (try simp only [List.cons_append, List.nil_append] at hm))) | ((with_reducible show wpList _ _ _ (Oper.mk _ (Op.load _ _) _ _ _ _ :: _) _ _); first | (refine ldA hm ?_) | (refine laA hm ?_)) | ((with_reducible show wpList _ _ _ (Oper.mk _ (Op.store _ _ _) _ _ _ _ :: _) _ _); (refine stA hm ?_; clear hm; intro w hz hm ho)) | ((with_reducible show wpList _ _ _ (Oper.mk _ (Op.alloc _) _ _ _ _ :: _) _ _); (refine alA hm ?_; clear hm; intro n w hn hz hm ho; (try simp only [List.cons_append, List.nil_append] at hm)))); try simp only [Act.put, sxQ]) | (go_at_call 42; refine (HPL.out _).mono ?_; rintro e w2 ⟨rfl, hbl⟩; replace hm := hm.below hbl) | ((with_reducible show Calls _ 43 #[_, Value.int _ 1] _ _); refine (HB1.out _).mono ?_; rintro e w2 ⟨rfl, rfl⟩) | ((with_reducible show Calls _ 43 #[_, Value.int _ 2] _ _); refine (HB2.out _).mono ?_; rintro e w2 ⟨rfl, rfl⟩) | (go_at_call 44; refine (HZC.out _).mono ?_; rintro e w2 ⟨rfl, rfl⟩) | (go_at_call 45; refine (HCL.out _).mono ?_; rintro e w2 ⟨rfl, hbl⟩; replace hm := hm.below hbl) | (go_at_call 46; refine (HBY.out _).mono ?_; rintro e w2 ⟨rfl, hbl⟩; replace hm := hm.below hbl))
    refine wp_region_noPanic ?_
    refine wp_region_held_drew (S := KnS _ _) (by kernel_rfl) (KnS.of hm.drew (Rngs.nil _)) (fun hHeld => ?_)
    refine wpAnyH_fresh (by repeat (first | apply Fresh.a | apply Fresh.b)) ?_
    replace hm := hm.drew
    iterate 7 (first | (refine takeN 0 hHeld ?_) | (refine takeY 0 ?_ hHeld ?_ ?_; rotate_left 1; (first | (intro w9 h9; (with_reducible show (execOp _ (Oper.mk _ (Op.load _ _) _ _ _ _)).run _ _ = _); first | exact h9.ldA | exact h9.lcA | exact h9.laA | exact h9.lrA) | focus (intro w9 hSw; go_simp; (try (with_reducible rfl)); done))); try simp only [Act.put, sxQ])
    iterate 2 (first | (refine takeN 8 hHeld ?_) | (refine takeY 8 ?_ hHeld ?_ ?_; rotate_left 1; (first | (intro w9 h9; (with_reducible show (execOp _ (Oper.mk _ (Op.load _ _) _ _ _ _)).run _ _ = _); first | exact h9.ldA | exact h9.lcA | exact h9.laA | exact h9.lrA) | focus (intro w9 hSw; go_simp; (try (with_reducible rfl)); done))); try simp only [Act.put, sxQ])
    refine wpAnyH_ready (rs := [7]) (by kernel_rfl) (by simp) ?_
    refine AllReadyH.cons2 (by simp only [sxN]; first | done | exact rfl) (fun K hK => ?_)
    rw [if_pos (by rfl)]
    go_simp
    refine (HHD.out _).mono ?_
    rintro e w5 ⟨A5, c5, rfl, hown, hbl⟩
    replace hm := hm.got hbl hown
    clear hown
    go_simp
    refine hK.out _ _ (KnS.of hm (Rngs.nil _)) (fun hHeld => ?_)
    clear hK K
    try simp only [Act.put, sxQ]
    refine wpAnyH_ready (rs := [10]) (by kernel_rfl) (by simp) ?_
    refine AllReadyH.cons2 (by simp only [sxN]; first | done | exact rfl) (fun K hK => ?_)
    rw [if_pos (by rfl)]
    go_simp
    refine K_up hm ?_
    intro n6 w6 hn hn6s hn6 hm1 hn6d hn6d2 hb6
    first | rw [← hn] | rw [← (show n6 = w5.heap.size from hn)]
    clear hn hm
    have hm := hm1.row hn6 hn6s hn6d hn6d2 1 2 [.slice A5 10 c5, .slice A dn c] rfl rfl (by unfold maxLen; omega)
    clear hm1
    refine hK.out _ _ (KnS.of hm (Rngs.nil _)) (fun hHeld => ?_)
    clear hK K
    try simp only [Act.put, sxQ]
    refine wpAnyH_ready (rs := [11]) (by kernel_rfl) (by simp) ?_
    refine AllReadyH.cons2 (by simp only [sxN]; first | done | exact rfl) (fun K hK => ?_)
    rw [if_pos (by rfl)]
    go_simp
    refine (rjoin_list n6 [⟨A5, 10, c5, Sec.hdr (cla + 4) ins p1 p2 ((dn : Int) + 8) le⟩, ⟨A, dn, c, b⟩] 2 (dn + 10) rfl _ (by exact (hm.sl_ 1 rfl).row) (by
      intro v hv
      simp only [List.mem_cons, List.not_mem_nil, or_false] at hv
      rcases hv with rfl | rfl
      · exact (HC.out.resync hm).byt 0 rfl
      · exact (HC.out.resync hm).old HX.out) (by simp [joined, Sec.hdr, Sec.three, HBL.out]) (by omega) (by omega)).mono ?_
    rintro e w7 ⟨A7, c7, rfl, hown, hbl⟩
    replace hm := hm.got hbl hown
    clear hown
    go_simp
    refine hK.out _ _ (KnS.of hm (Rngs.nil _)) (fun hHeld => ?_)
    clear hK K
    try simp only [Act.put, sxQ]
    refine wpAnyH_ready (rs := [12]) (by kernel_rfl) (by simp) ?_
    refine AllReadyH.cons2 (by simp only [sxN]; first | done | exact rfl) (fun K hK => ?_)
    rw [if_pos (by rfl)]
    go_simp
    refine (rmac_call M C A7 (dn + 10) cm cc c7 s.mac s.chain (joined [⟨A5, 10, c5, Sec.hdr (cla + 4) ins p1 p2 ((dn : Int) + 8) le⟩, ⟨A, dn, c, b⟩]) _ ((HC.out.resync hm).old HM.out) ((HC.out.resync hm).old HCH.out) ((HC.out.resync hm).byt 2 rfl) (by omega)).mono ?_
    rintro e w8 ⟨A8, c8, rfl, hby, hnew, hbl8⟩
    rw [show Mod.mcB s.mac s.chain (joined [⟨A5, 10, c5, Sec.hdr (cla + 4) ins p1 p2 ((dn : Int) + 8) le⟩, ⟨A, dn, c, b⟩]) = Sec.cmac s (cla + 4) ins p1 p2 le b by simp [joined, Sec.cmac, Sec.hdr, HBL.out]] at hby
    have HN8 := Lib.hid (fun x (e : A8 = some x) => Nat.le_trans (HC.out.resync hm).size (hnew x e))
    have hc2 := (HC.out.resync hm).fresh hbl8 (bytSup hby) (fun q hq => by obtain ⟨x, e, rfl⟩ := blks_lone hq; exact .inl (hnew x e))
    clear hby hnew
    clear HC hm
    simp only [List.nil_append, List.cons_append, List.set_cons_zero, List.set_cons_succ] at hc2
    have HC := Lib.hid hc2
    clear hc2
    have hm := HC.out.rebase
    go_simp
    refine hK.out _ _ (KnS.of hm (Rngs.nil _)) (fun hHeld => ?_)
    clear hK K
    try simp only [Act.put, sxQ]
    iterate 5 (first | (refine takeN 13 hHeld ?_) | (refine takeY 13 ?_ hHeld ?_ ?_; rotate_left 1; (first | (intro w9 h9; (with_reducible show (execOp _ (Oper.mk _ (Op.load _ _) _ _ _ _)).run _ _ = _); first | exact h9.ldA | exact h9.lcA | exact h9.laA | exact h9.lrA) | focus (intro w9 hSw; go_simp; (try (with_reducible rfl)); done))); try simp only [Act.put, sxQ])
    refine wpAnyH_done (by kernel_rfl) ?_ _
    refine NoPanic.normal ?_
    go_wp2_with (first | go_skip | ((with_reducible show wpList _ _ _ _ _ (World.alloc _ _)); refine wpList_up hm ?_; clear hm; intro n w hn hn2 hk hm hd hd2 ho; (try rw [← hn]); replace hn := Nat.le_of_eq hn.symm) | ((first | ((with_reducible show wpList _ _ _ (Oper.mk _ (Op.box _ _) _ _ _ _ :: _) _ _); (refine bxA hm ?_; clear hm; intro n w hn hz hm ho; (try simp only [List.cons_append, List.nil_append] at hm))) | ((with_reducible show wpList _ _ _ (Oper.mk _ (Op.load _ _) _ _ _ _ :: _) _ _); first | (refine ldA hm ?_) | (refine laA hm ?_)) | ((with_reducible show wpList _ _ _ (Oper.mk _ (Op.store _ _ _) _ _ _ _ :: _) _ _); (refine stA hm ?_; clear hm; intro w hz hm ho)) | ((with_reducible show wpList _ _ _ (Oper.mk _ (Op.alloc _) _ _ _ _ :: _) _ _); (refine alA hm ?_; clear hm; intro n w hn hz hm ho; (try simp only [List.cons_append, List.nil_append] at hm)))); try simp only [Act.put, sxQ]))
    have hm := hm.row hk hn2 hd hd2 1 2 [.slice A dn c, .slice A8 8 c8] rfl rfl (by unfold maxLen; omega)
    clear hk hd hd2
    go_at_call 49
    refine (rjoin_list n [⟨A, dn, c, b⟩, ⟨A8, 8, c8, Sec.cmac s (cla + 4) ins p1 p2 le b⟩] 2 (dn + 8) rfl _ (by exact (hm.sl_ 0 rfl).row) (by
      intro v hv
      simp only [List.mem_cons, List.not_mem_nil, or_false] at hv
      rcases hv with rfl | rfl
      · exact (HC.out.resync hm).old HX.out
      · exact (HC.out.resync hm).val 0 rfl) (by simp [joined, HBL.out, HML.out]) (by omega) (by omega)).mono ?_
    rintro e w9 ⟨A9, c9, rfl, hown, hbl⟩
    rw [show joined [⟨A, dn, c, b⟩, ⟨A8, 8, c8, Sec.cmac s (cla + 4) ins p1 p2 le b⟩] = b ++ Sec.cmac s (cla + 4) ins p1 p2 le b by simp [joined]] at hown
    replace hm := hm.got hbl hown
    clear hown
    go_wp2_with (first | go_skip | ((with_reducible show wpList _ _ _ _ _ (World.alloc _ _)); refine wpList_up hm ?_; clear hm; intro n w hn hn2 hk hm hd hd2 ho; (try rw [← hn]); replace hn := Nat.le_of_eq hn.symm) | ((first | ((with_reducible show wpList _ _ _ (Oper.mk _ (Op.box _ _) _ _ _ _ :: _) _ _); (refine bxA hm ?_; clear hm; intro n w hn hz hm ho; (try simp only [List.cons_append, List.nil_append] at hm))) | ((with_reducible show wpList _ _ _ (Oper.mk _ (Op.load _ _) _ _ _ _ :: _) _ _); first | (refine ldA hm ?_) | (refine laA hm ?_)) | ((with_reducible show wpList _ _ _ (Oper.mk _ (Op.store _ _ _) _ _ _ _ :: _) _ _); (refine stA hm ?_; clear hm; intro w hz hm ho)) | ((with_reducible show wpList _ _ _ (Oper.mk _ (Op.alloc _) _ _ _ _ :: _) _ _); (refine alA hm ?_; clear hm; intro n w hn hz hm ho; (try simp only [List.cons_append, List.nil_append] at hm)))); try simp only [Act.put, sxQ]))
    have hw9 := (hm.drew.wo 3).wo 2
    simp only [List.eraseIdx_cons_zero, List.eraseIdx_cons_succ] at hw9
    refine wp_region_noPanic ?_
    refine wp_region_held_drew (S := MemS _ _ _ _) (by kernel_rfl) (MemS.of hw9) (fun hHeld => ?_)
    refine wpAnyH_fresh (by repeat (first | apply Fresh.a | apply Fresh.b)) ?_
    clear hw9
    replace hm := hm.drew
    iterate 2 (first | (refine takeN 0 hHeld ?_) | (refine takeY 0 ?_ hHeld ?_ ?_; rotate_left 1; (first | (intro w9 h9; (with_reducible show (execOp _ (Oper.mk _ (Op.load _ _) _ _ _ _)).run _ _ = _); first | exact h9.ldA | exact h9.laA) | focus (intro w9 hSw; go_simp; (try (with_reducible rfl)); done))); try simp only [Act.put, sxQ])
    refine wpAnyH_ready (rs := [2]) (by kernel_rfl) (by simp) ?_
    refine AllReadyH.cons2 (by simp only [sxN]; first | done | exact rfl) (fun K hK => ?_)
    refine stB hm ?_
    clear hm; intro w hz hm ho
    refine hK.out _ _ (MemS.of ((hm.wo 3).wo 2)) (fun hHeld => ?_)
    clear hK K
    try simp only [Act.put, sxQ]
    refine wpAnyH_ready (rs := [3]) (by kernel_rfl) (by simp) ?_
    refine AllReadyH.cons2 (by simp only [sxN]; first | done | exact rfl) (fun K hK => ?_)
    refine stB hm ?_
    clear hm; intro w hz hm ho
    refine hK.out _ _ (MemS.of ((hm.wo 3).wo 2)) (fun hHeld => ?_)
    clear hK K
    try simp only [Act.put, sxQ]
    iterate 1 (first | (refine takeN 4 hHeld ?_) | (refine takeY 4 ?_ hHeld ?_ ?_; rotate_left 1; (first | (intro w9 h9; (with_reducible show (execOp _ (Oper.mk _ (Op.load _ _) _ _ _ _)).run _ _ = _); first | exact h9.ldA) | focus (intro w9 hSw; go_simp; (try (with_reducible rfl)); done))); try simp only [Act.put, sxQ])
    refine wpAnyH_done (by kernel_rfl) ?_ _
    refine NoPanic.normal ?_
    go_wp2_with fail
    refine bodyPost_ret (results_row_row_tmp rfl _ _ _ 36 _ (0, 0) _ rfl (by exact hm.at_ 2 rfl) Tryz.underlying36 rfl (by kernel_rfl) _ 28 _ (0, 0) _ rfl (by exact hm.at_ 3 rfl) Tryz.underlying28 rfl (by kernel_rfl)) rfl ?_
    have hk := HKC.out
    subst hk
    exact RWr.mac HH.out HS.out HE.out HH1.out HWD.out rfl (by rw [List.length_append, HBL.out, HML.out]) ((HC.out.resync hm).cal.mem.own_ 4 rfl) ((HC.out.resync hm).val 0 rfl) HN8.out (HC.out.resync hm).low (by first | rfl | (rw [← HLG.out]; simp only [Bool.false_or]; exact decide_eq_decide.2 (by omega)))
set_option maxRecDepth 100000 in
theorem ref24_Wrap (w0 : World) (a : ChS) (s : Sec.S) (H : RSt w0 a s) (hc : s.cnt < 200) (cla ins p1 p2 : Int) (A : Option Addr) (dn c : Nat) (b : List UInt8) (h : Byt w0 w0.heap.size A dn c b) (hdn : dn ≤ 70000) (le : Int) (long : Bool)  :
    Calls Tryz.prog 18 #[.agg (rst a s), cmdV cla ins p1 p2 A dn c le long] w0 (RWr w0 a s A dn (Sec.wrap s ⟨cla, ins, p1, p2, b, le, long⟩) (Sec.wrapE s ⟨cla, ins, p1, p2, b, le, long⟩)) := by
  cases hs : s.shut with
  | true => exact rwrap_shut w0 a s H hc cla ins p1 p2 A dn c b h hdn le long hs
  | false =>
  by_cases hp : Sec.plainE ⟨cla, ins, p1, p2, b, le, long⟩ = 0
  rotate_left 1
  · exact rwrap_plain w0 a s H hc cla ins p1 p2 A dn c b h hdn le long hs hp
  by_cases hz : Sec.sz dn (Sec.hb s.lvl 2) + (if Sec.hb s.lvl 1 then 8 else 0) ≤ 65535
  rotate_left 1
  · exact rwrap_long w0 a s H hc cla ins p1 p2 A dn c b h hdn le long _ hs hp rfl (by omega)
  cases h1 : Sec.hb s.lvl 1 with
  | false => exact rwrap_nomac w0 a s H hc cla ins p1 p2 A dn c b h hdn le long hs hp h1 hz
  | true =>
  cases h2 : Sec.hb s.lvl 2 with
  | false => exact rwrap_mac w0 a s H hc cla ins p1 p2 A dn c b h hdn le long hs hp h1 h2 hz
  | true => exact rwrap_enc w0 a s H hc cla ins p1 p2 A dn c b h hdn le long hs hp h1 h2 hz
end Go.Proofs.YtibaibdgpnkdnaaGreatDoor
