/-
  The reference of the channel: Unwrap.
-/
import Derived.Test.YtibaibdgpnkdnaaGreatDoorZ1
import Derived.Test.YtibaibdgpnkdnaaGreatDoorSecRD
import Derived.Test.YtibaibdgpnkdnaaGreatDoorSecT0
namespace Go.Proofs.YtibaibdgpnkdnaaGreatDoor
set_option maxRecDepth 100000
set_option linter.unusedSimpArgs false
set_option linter.unusedVariables false
open Go.RowKit
set_option maxHeartbeats 8000000

theorem RWr.shut {w w' : World} {a : ChS} {s : Sec.S} {A : Option Addr} {dn : Nat} {x : Apd.Cmd} {k : Int} (H : RSt w a s) (hs : s.shut = false) (hk : Sec.unwrapE s x = k) (h0 : k ≠ 0) (hb : Below w.heap.size w w') :
    RWr w a s A dn (Sec.unwrap s x) (Sec.unwrapE s x) (.returned (.tuple #[.agg (cch a s.lvl s.cnt s.exp true), cmdV 0 0 0 0 none 0 0 0 false, .int .i64 k])) w' := by
  have e : Sec.unwrap s x = ({ s with shut := true }, Sec.cz) := by unfold Sec.unwrap; rw [if_neg (by rw [hs]; decide), if_pos (by rw [hk]; exact h0)]
  rw [e, hk]
  exact ⟨a, none, 0, rfl, (H.below hb).flags s.cnt s.exp true, Byt.empty, fun F h => rst_far h, fun F _ hn => absurd hn (Nat.lt_irrefl 0), hb⟩
theorem RWr.umac {w w' : World} {a : ChS} {s : Sec.S} {A : Option Addr} {dn : Nat} {x : Apd.Cmd} (H : RSt w a s) (hs : s.shut = false) (hw : Sec.unwrapE s x = 0) (h1 : Sec.hb s.lvl 1 = true) {D M : List UInt8} (hD : Sec.unwrapD s x = D) (hM : x.d.drop (x.d.length - 8) = M)
    {m c' : Nat} {A' : Option Addr} (hm : D.length = m) (hb : Byt w' w'.heap.size A' m c' D) (hfar : ∀ F, FarS F A dn → FarS (fun q => F q ∨ w.heap.size ≤ q) A' m) {C : Option Addr} {cc : Nat} (hC : Byt w' w'.heap.size C 8 cc M) (hCn : ∀ x, C = some x → w.heap.size ≤ x.block) (hl : Below w.heap.size w w') :
    RWr w a s A dn (Sec.unwrap s x) (Sec.unwrapE s x) (.returned (.tuple #[.agg (cch { a with C := C, cc := cc } s.lvl (s.cnt + 1) true false), cmdV (x.cla - 4) x.ins x.p1 x.p2 A' m c' x.le x.long, .int .i64 0])) w' := by
  subst hD
  have e : Sec.unwrap s x = ({ s with cnt := s.cnt + 1, exp := true, chain := M }, ⟨x.cla - 4, x.ins, x.p1, x.p2, Sec.unwrapD s x, x.le, x.long⟩) := by unfold Sec.unwrap; rw [if_neg (by rw [hs]; decide), if_neg (fun e => e hw), if_neg (by rw [h1]; decide), hM]
  rw [e, hw]
  subst hm
  have hR := H.below hl
  refine ⟨{ a with C := C, cc := cc }, A', c', ?_, ⟨{ enc := H.ok.enc, mac := H.ok.mac, rmac := H.ok.rmac, dat := H.ok.dat, lvl := H.ok.lvl, chain := hC.1 }, hR.enc, hR.mac, hR.rmac, hR.dat, hC⟩, hb, fun F h => rst_far_chain h hCn, hfar, hl⟩
  rw [rst_shut (s := { s with cnt := s.cnt + 1, exp := true, chain := M }) hs]
theorem Sec.unwrapE_cov {s : Sec.S} {x : Apd.Cmd} (hs : s.shut = false) : Sec.unwrapE s x = if Sec.covE s x ≠ 0 then Sec.covE s x else if Sec.hb s.lvl 1 = false then 0
    else if x.d.drop (x.d.length - 8) ≠ Sec.cmac s x.cla x.ins x.p1 x.p2 x.le (x.d.take (x.d.length - 8)) then 17 else if Sec.hb s.lvl 2 = true ∧ Sec.show? { s with cnt := s.cnt + 1 } false (x.d.take (x.d.length - 8)) = none then 4 else 0 := by
  unfold Sec.unwrapE Sec.covE
  rw [if_neg (by rw [hs]; decide)]
  by_cases h1 : Sec.chkC x = 0
  rotate_left 1
  · rw [if_pos h1, if_pos h1, if_pos h1]
  by_cases h2 : Apd.cok x.cla = false ∨ x.cla / 16 % 2 = 1 ∨ (x.cla / 4 % 2 = 1 ∧ Sec.hb s.lvl 1 = false)
  · simp [h1, h2]
  have e0 : ¬ (Sec.chkC x ≠ 0) := fun e => e h1
  rw [if_neg e0, if_neg e0, if_neg h2, if_neg h2]
  cases h3 : Sec.hb s.lvl 1 with
  | false => simp
  | true =>
    by_cases h4 : ¬ x.cla / 4 % 2 = 1 ∨ x.d.length < 8
    · simp [h4]
    · simp [h4]
theorem Sec.cov_facts {s : Sec.S} {x : Apd.Cmd} (h : Sec.covE s x = 0) : Sec.chkC x = 0 ∧ Apd.cok x.cla = true ∧ ¬ x.cla / 16 % 2 = 1 ∧ (Sec.hb s.lvl 1 = true → x.cla / 4 % 2 = 1 ∧ 8 ≤ x.d.length) := by
  unfold Sec.covE at h
  by_cases h1 : Sec.chkC x = 0
  rotate_left 1
  · rw [if_pos h1] at h; exact absurd h h1
  rw [if_neg (fun e => e h1)] at h
  by_cases h2 : Apd.cok x.cla = false ∨ x.cla / 16 % 2 = 1 ∨ (x.cla / 4 % 2 = 1 ∧ Sec.hb s.lvl 1 = false)
  · rw [if_pos h2] at h; cases h
  rw [if_neg h2] at h
  refine ⟨h1, ?_, fun e => h2 (.inr (.inl e)), fun e => ?_⟩
  · cases hc : Apd.cok x.cla with
    | true => rfl
    | false => exact absurd (.inl hc) h2
  · by_cases h3 : ¬ x.cla / 4 % 2 = 1 ∨ x.d.length < 8
    · rw [if_pos ⟨e, h3⟩] at h; cases h
    · exact ⟨Decidable.not_not.1 fun e => h3 (.inl e), by omega⟩
theorem FarS.cut {F : Nat → Prop} {k n m : Nat} {b o : Nat} (h : FarS F (some ⟨b, o, none⟩) n) (hm : m ≤ n) : FarS (fun q => F q ∨ k ≤ q) (some ⟨b, o, none⟩) m := fun hn x e => .inl (h (by omega) x e)
set_option maxRecDepth 100000 in
theorem runw_shut (w0 : World) (a : ChS) (s : Sec.S) (H : RSt w0 a s) (hc : s.cnt < 200) (cla ins p1 p2 : Int) (A : Option Addr) (dn c : Nat) (b : List UInt8) (h : Byt w0 w0.heap.size A dn c b) (hdn : dn ≤ 70000) (le : Int) (long : Bool) (hs : s.shut = true) :
    Calls Tryz.prog 20 #[.agg (rst a s), cmdV cla ins p1 p2 A dn c le long] w0 (RWr w0 a s A dn (Sec.unwrap s ⟨cla, ins, p1, p2, b, le, long⟩) (Sec.unwrapE s ⟨cla, ins, p1, p2, b, le, long⟩)) := by
  have hE : Sec.unwrapE s ⟨cla, ins, p1, p2, b, le, long⟩ = 14 := by unfold Sec.unwrapE; rw [if_pos hs]
  have hU : Sec.unwrap s ⟨cla, ins, p1, p2, b, le, long⟩ = (s, Sec.cz) := by unfold Sec.unwrap; rw [if_pos hs]
  have HE := Lib.hid hE
  have HU := Lib.hid hU
  rw [rst_shut hs]
  have HS := Lib.hid hs
  clear hs h hE hU
  have HH := Lib.hid H
  have hm := Mem.nil (fun _ => False) w0
  clear H hc
  unfold cch
  obtain ⟨E, ce, M, cm, R, cr, D, cd, C, cc⟩ := a
  dsimp only
  unfold cmdV
  go_enter Tryz.func20, Tryz.ntmps20
  go_wp2_with (first | go_skip | ((with_reducible show wpList _ _ _ _ _ (World.alloc _ _)); refine wpList_up hm ?_; clear hm; intro n w hn hn2 hk hm hd hd2 ho; (try rw [← hn]); replace hn := Nat.le_of_eq hn.symm) | ((first | ((with_reducible show wpList _ _ _ (Oper.mk _ (Op.box _ _) _ _ _ _ :: _) _ _); (refine bxA hm ?_; clear hm; intro n w hn hz hm ho; (try simp only [List.cons_append, List.nil_append] at hm))) | ((with_reducible show wpList _ _ _ (Oper.mk _ (Op.load _ _) _ _ _ _ :: _) _ _); first | (refine ldA hm ?_) | (refine laA hm ?_)) | ((with_reducible show wpList _ _ _ (Oper.mk _ (Op.store _ _ _) _ _ _ _ :: _) _ _); (refine stA hm ?_; clear hm; intro w hz hm ho)) | ((with_reducible show wpList _ _ _ (Oper.mk _ (Op.alloc _) _ _ _ _ :: _) _ _); (refine alA hm ?_; clear hm; intro n w hn hz hm ho; (try simp only [List.cons_append, List.nil_append] at hm)))); try simp only [Act.put, sxQ]))
  refine bodyPost_ret (results_row_row_tmp rfl _ _ _ 36 _ (0, 0) _ rfl (by exact hm.at_ 2 rfl) Tryz.underlying36 rfl (by kernel_rfl) _ 28 _ (0, 0) _ rfl (by exact hm.at_ 3 rfl) Tryz.underlying28 rfl (by kernel_rfl)) rfl ?_
  rw [HU.out, HE.out]
  exact ⟨⟨E, ce, M, cm, R, cr, D, cd, C, cc⟩, none, 0, by rw [rst_shut HS.out]; rfl, HH.out.below hm.low, Byt.empty, fun F h => rst_far h, fun F _ hn => absurd hn (Nat.lt_irrefl 0), hm.low⟩
set_option maxRecDepth 100000 in
theorem runw_cov (w0 : World) (a : ChS) (s : Sec.S) (H : RSt w0 a s) (hc : s.cnt < 200) (cla ins p1 p2 : Int) (A : Option Addr) (dn c : Nat) (b : List UInt8) (h : Byt w0 w0.heap.size A dn c b) (hdn : dn ≤ 70000) (le : Int) (long : Bool) (hs : s.shut = false) (hp : Sec.covE s ⟨cla, ins, p1, p2, b, le, long⟩ ≠ 0) :
    Calls Tryz.prog 20 #[.agg (rst a s), cmdV cla ins p1 p2 A dn c le long] w0 (RWr w0 a s A dn (Sec.unwrap s ⟨cla, ins, p1, p2, b, le, long⟩) (Sec.unwrapE s ⟨cla, ins, p1, p2, b, le, long⟩)) := by
  have hcv := ref24_covered a s H.ok.lvl cla ins p1 p2 A dn c b h.1 (by omega) le long
  have hE := Sec.unwrapE_cov (x := ⟨cla, ins, p1, p2, b, le, long⟩) hs
  rw [rst_shut hs] at hcv ⊢
  unfold cch at hcv
  have HS := Lib.hid hs
  rw [if_pos hp] at hE
  generalize Sec.covE s ⟨cla, ins, p1, p2, b, le, long⟩ = k at *
  have HCV := Lib.hid hcv
  have i0 : (k != 0) = true := bne_iff_ne.2 hp
  have HE := Lib.hid hE
  have HNE := Lib.hid hp
  clear hs hp hE h hcv
  have HH := Lib.hid H
  have hm := Mem.nil (fun _ => False) w0
  clear H hc
  unfold cch
  obtain ⟨E, ce, M, cm, R, cr, D, cd, C, cc⟩ := a
  dsimp only
  unfold cmdV at HCV ⊢
  go_enter Tryz.func20, Tryz.ntmps20
  go_wp2_with (first | go_skip | ((with_reducible show wpList _ _ _ _ _ (World.alloc _ _)); refine wpList_up hm ?_; clear hm; intro n w hn hn2 hk hm hd hd2 ho; (try rw [← hn]); replace hn := Nat.le_of_eq hn.symm) | ((first | ((with_reducible show wpList _ _ _ (Oper.mk _ (Op.box _ _) _ _ _ _ :: _) _ _); (refine bxA hm ?_; clear hm; intro n w hn hz hm ho; (try simp only [List.cons_append, List.nil_append] at hm))) | ((with_reducible show wpList _ _ _ (Oper.mk _ (Op.load _ _) _ _ _ _ :: _) _ _); first | (refine ldA hm ?_) | (refine laA hm ?_)) | ((with_reducible show wpList _ _ _ (Oper.mk _ (Op.store _ _ _) _ _ _ _ :: _) _ _); (refine stA hm ?_; clear hm; intro w hz hm ho)) | ((with_reducible show wpList _ _ _ (Oper.mk _ (Op.alloc _) _ _ _ _ :: _) _ _); (refine alA hm ?_; clear hm; intro n w hn hz hm ho; (try simp only [List.cons_append, List.nil_append] at hm)))); try simp only [Act.put, sxQ]) | (go_at_call 51; refine (HCV.out _).mono ?_; rintro e w2 ⟨rfl, hbl⟩; replace hm := hm.below hbl))
  refine bodyPost_ret (results_row_row_tmp rfl _ _ _ 36 _ (0, 0) _ rfl (by exact hm.at_ 2 rfl) Tryz.underlying36 rfl (by kernel_rfl) _ 28 _ (0, 0) _ rfl (by exact hm.at_ 3 rfl) Tryz.underlying28 rfl (by kernel_rfl)) rfl ?_
  exact RWr.shut (A := A) (dn := dn) HH.out HS.out HE.out HNE.out hm.low
set_option maxRecDepth 100000 in
theorem runw_nomac (w0 : World) (a : ChS) (s : Sec.S) (H : RSt w0 a s) (hc : s.cnt < 200) (cla ins p1 p2 : Int) (A : Option Addr) (dn c : Nat) (b : List UInt8) (h : Byt w0 w0.heap.size A dn c b) (hdn : dn ≤ 70000) (le : Int) (long : Bool) (hs : s.shut = false) (hp : Sec.covE s ⟨cla, ins, p1, p2, b, le, long⟩ = 0) (h1 : Sec.hb s.lvl 1 = false) :
    Calls Tryz.prog 20 #[.agg (rst a s), cmdV cla ins p1 p2 A dn c le long] w0 (RWr w0 a s A dn (Sec.unwrap s ⟨cla, ins, p1, p2, b, le, long⟩) (Sec.unwrapE s ⟨cla, ins, p1, p2, b, le, long⟩)) := by
  have hcv := ref24_covered a s H.ok.lvl cla ins p1 p2 A dn c b h.1 (by omega) le long
  have hE := Sec.unwrapE_cov (x := ⟨cla, ins, p1, p2, b, le, long⟩) hs
  rw [rst_shut hs] at hcv ⊢
  unfold cch at hcv
  have HS := Lib.hid hs
  rw [hp] at hcv
  have HCV := Lib.hid hcv
  rw [hp, if_neg (fun e => e rfl)] at hE
  have HB1 := Lib.hid (ref24_has H.ok.lvl (.inl rfl) h1)
  have HB2 := Lib.hid (ref24_has H.ok.lvl (.inr (.inl rfl)) (v := Sec.hb s.lvl 2) rfl)
  have HX := Lib.hid h
  have hcn : 0 ≤ (s.cnt : Int) ∧ (s.cnt : Int) < 200 := by omega
  obtain ⟨hcn0, hcn1⟩ := hcn
  obtain ⟨kc, hkc⟩ : ∃ kc : Nat, kc = s.cnt + 1 := ⟨_, rfl⟩
  have HKC := Lib.hid hkc
  have i4 : (s.cnt : Int) + 1 = (kc : Int) := by omega
  have HH1 := Lib.hid h1
  rw [if_pos h1] at hE
  have HE := Lib.hid hE
  have hU : Sec.unwrap s ⟨cla, ins, p1, p2, b, le, long⟩ = ({ s with cnt := s.cnt + 1, exp := true }, ⟨cla, ins, p1, p2, b, le, long⟩) := by unfold Sec.unwrap; rw [if_neg (by rw [hs]; decide), if_neg (fun e => e hE), if_pos h1]
  have HU := Lib.hid hU
  clear hs hp hE h h1 hkc hcv hU
  have HH := Lib.hid H
  have hm := Mem.nil (fun _ => False) w0
  clear H hc
  unfold cch
  obtain ⟨E, ce, M, cm, R, cr, D, cd, C, cc⟩ := a
  dsimp only
  unfold cmdV at HCV ⊢
  go_enter Tryz.func20, Tryz.ntmps20
  go_wp2_with (first | go_skip | ((with_reducible show wpList _ _ _ _ _ (World.alloc _ _)); refine wpList_up hm ?_; clear hm; intro n w hn hn2 hk hm hd hd2 ho; (try rw [← hn]); replace hn := Nat.le_of_eq hn.symm) | ((first | ((with_reducible show wpList _ _ _ (Oper.mk _ (Op.box _ _) _ _ _ _ :: _) _ _); (refine bxA hm ?_; clear hm; intro n w hn hz hm ho; (try simp only [List.cons_append, List.nil_append] at hm))) | ((with_reducible show wpList _ _ _ (Oper.mk _ (Op.load _ _) _ _ _ _ :: _) _ _); first | (refine ldA hm ?_) | (refine laA hm ?_)) | ((with_reducible show wpList _ _ _ (Oper.mk _ (Op.store _ _ _) _ _ _ _ :: _) _ _); (refine stA hm ?_; clear hm; intro w hz hm ho)) | ((with_reducible show wpList _ _ _ (Oper.mk _ (Op.alloc _) _ _ _ _ :: _) _ _); (refine alA hm ?_; clear hm; intro n w hn hz hm ho; (try simp only [List.cons_append, List.nil_append] at hm)))); try simp only [Act.put, sxQ]) | (go_at_call 51; refine (HCV.out _).mono ?_; rintro e w2 ⟨rfl, hbl⟩; replace hm := hm.below hbl) | ((with_reducible show Calls _ 43 #[_, Value.int _ 1] _ _); refine (HB1.out _).mono ?_; rintro e w2 ⟨rfl, rfl⟩) | ((with_reducible show Calls _ 43 #[_, Value.int _ 2] _ _); refine (HB2.out _).mono ?_; rintro e w2 ⟨rfl, rfl⟩))
  have hw9 := (hm.drew.wo 3).wo 2
  simp only [List.eraseIdx_cons_zero, List.eraseIdx_cons_succ] at hw9
  refine wp_region_noPanic ?_
  refine wp_region_held_drew (S := MemS _ _ _ _) (by kernel_rfl) (MemS.of hw9) (fun hHeld => ?_)
  refine wpAnyH_fresh (by repeat (first | apply Fresh.a | apply Fresh.b)) ?_
  clear hw9
  replace hm := hm.drew
  iterate 2 (first | (refine takeN 0 hHeld ?_) | (refine takeY 0 ?_ hHeld ?_ ?_; rotate_left 1; (first | (intro w9 h9; (with_reducible show (execOp _ (Oper.mk _ (Op.load _ _) _ _ _ _)).run _ _ = _); first | exact h9.ldA | exact h9.laA) | focus (intro w9 hSw; go_simp; (try (with_reducible rfl)); done))); try simp only [Act.put, sxQ])
  refine wpAnyH_ready (rs := [2]) (by kernel_rfl) (by simp) ?_
  refine AllReadyH.cons2 (by simp only [sxN]; first | done | exact rfl) (fun K hK => ?_)
  refine stB hm ?_
  clear hm; intro w hz hm ho
  refine hK.out _ _ (MemS.of ((hm.wo 3).wo 2)) (fun hHeld => ?_)
  clear hK K
  try simp only [Act.put, sxQ]
  refine wpAnyH_ready (rs := [3]) (by kernel_rfl) (by simp) ?_
  refine AllReadyH.cons2 (by simp only [sxN]; first | done | exact rfl) (fun K hK => ?_)
  refine stB hm ?_
  clear hm; intro w hz hm ho
  refine hK.out _ _ (MemS.of ((hm.wo 3).wo 2)) (fun hHeld => ?_)
  clear hK K
  try simp only [Act.put, sxQ]
  iterate 1 (first | (refine takeN 4 hHeld ?_) | (refine takeY 4 ?_ hHeld ?_ ?_; rotate_left 1; (first | (intro w9 h9; (with_reducible show (execOp _ (Oper.mk _ (Op.load _ _) _ _ _ _)).run _ _ = _); first | exact h9.ldA) | focus (intro w9 hSw; go_simp; (try (with_reducible rfl)); done))); try simp only [Act.put, sxQ])
  refine wpAnyH_done (by kernel_rfl) ?_ _
  refine NoPanic.normal ?_
  go_wp2_with fail
  refine bodyPost_ret (results_row_row_tmp rfl _ _ _ 36 _ (0, 0) _ rfl (by exact hm.at_ 2 rfl) Tryz.underlying36 rfl (by kernel_rfl) _ 28 _ (0, 0) _ rfl (by exact hm.at_ 3 rfl) Tryz.underlying28 rfl (by kernel_rfl)) rfl ?_
  rw [HU.out, HE.out]
  have hk := HKC.out
  subst hk
  have hl := HX.out.1
  subst hl
  exact ⟨⟨E, ce, M, cm, R, cr, D, cd, C, cc⟩, A, c, by rw [rst_shut (s := { s with cnt := s.cnt + 1, exp := true }) HS.out]; rfl, (HH.out.below hm.low).flags (s.cnt + 1) true s.shut, HX.out.low hm, fun F h => rst_far h, fun F h hn x e => .inl (h hn x e), hm.low⟩
set_option maxRecDepth 100000 in
theorem runw_wrong (w0 : World) (a : ChS) (s : Sec.S) (H : RSt w0 a s) (hc : s.cnt < 200) (cla ins p1 p2 : Int) (A : Option Addr) (dn c : Nat) (b : List UInt8) (h : Byt w0 w0.heap.size A dn c b) (hdn : dn ≤ 70000) (le : Int) (long : Bool) (hs : s.shut = false) (hp : Sec.covE s ⟨cla, ins, p1, p2, b, le, long⟩ = 0) (h1 : Sec.hb s.lvl 1 = true) (hq : b.drop (dn - 8) ≠ Sec.cmac s cla ins p1 p2 le (b.take (dn - 8))) :
    Calls Tryz.prog 20 #[.agg (rst a s), cmdV cla ins p1 p2 A dn c le long] w0 (RWr w0 a s A dn (Sec.unwrap s ⟨cla, ins, p1, p2, b, le, long⟩) (Sec.unwrapE s ⟨cla, ins, p1, p2, b, le, long⟩)) := by
  obtain ⟨hck, hok, h16, hmm⟩ := Sec.cov_facts hp
  obtain ⟨h4, h8⟩ := hmm h1
  dsimp only at hok h16 h4 h8
  have hcv := ref24_covered a s H.ok.lvl cla ins p1 p2 A dn c b h.1 (by omega) le long
  have hE := Sec.unwrapE_cov (x := ⟨cla, ins, p1, p2, b, le, long⟩) hs
  rw [rst_shut hs] at hcv ⊢
  unfold cch at hcv
  have HS := Lib.hid hs
  rw [hp] at hcv
  have HCV := Lib.hid hcv
  rw [hp, if_neg (fun e => e rfl)] at hE
  have HB1 := Lib.hid (ref24_has H.ok.lvl (.inl rfl) h1)
  have HB2 := Lib.hid (ref24_has H.ok.lvl (.inr (.inl rfl)) (v := Sec.hb s.lvl 2) rfl)
  have HX := Lib.hid h
  have hcn : 0 ≤ (s.cnt : Int) ∧ (s.cnt : Int) < 200 := by omega
  obtain ⟨hcn0, hcn1⟩ := hcn
  obtain ⟨kc, hkc⟩ : ∃ kc : Nat, kc = s.cnt + 1 := ⟨_, rfl⟩
  have HKC := Lib.hid hkc
  have i4 : (s.cnt : Int) + 1 = (kc : Int) := by omega
  have HH1 := Lib.hid h1
  rw [if_neg (by rw [h1]; decide)] at hE
  replace hE : Sec.unwrapE s ⟨cla, ins, p1, p2, b, le, long⟩ = if b.drop (b.length - 8) ≠ Sec.cmac s cla ins p1 p2 le (b.take (b.length - 8)) then 17 else if Sec.hb s.lvl 2 = true ∧ Sec.show? { s with cnt := s.cnt + 1 } false (b.take (b.length - 8)) = none then 4 else 0 := hE
  rw [h.1] at hE
  rw [if_pos hq] at hE
  have HE := Lib.hid hE
  obtain ⟨hle0, hle1⟩ := chk_le (show Apd.chk cla ins p1 p2 b.length le long = 0 from hck)
  obtain ⟨k, rfl⟩ : ∃ k, dn = k + 8 := ⟨dn - 8, by have := h.1; omega⟩
  obtain ⟨q, o, rfl, _⟩ := h.at_ (by omega)
  rw [Nat.add_sub_cancel] at hq
  have hcc := h.2.1
  have j3 : ¬ c = k := by omega
  have j4 : k ≤ c := by omega
  have j5 : k < c := by omega
  have j6 : (k : Int) ≤ (k : Int) + 8 := by omega
  have HCU := Lib.hid (fun u (hu : Below w0.heap.size w0 u) => byt_cut ((h.below hu).more hu.size))
  have HTL := Lib.hid (show (b.take k).length = k by rw [List.length_take, h.1]; omega)
  have HHD := Lib.hid (ref24_header cla ins p1 p2 (some ⟨q, o, none⟩) (k + 8) c le long ((k : Int) + 8) (by omega) (by omega) hle0 hle1)
  have hsm : Oct.same (Sec.cmac s cla ins p1 p2 le (b.take k)) (b.drop k) = false := by rw [Bool.eq_false_iff]; exact fun e => hq ((Oct.same_iff _ _).1 e).symm
  have HSM := Lib.hid hsm
  have HQ := Lib.hid hq
  have HBL := Lib.hid h.1
  clear hs hp hE h h1 hkc hcv hck hok h16 h4 h8 hmm hsm hq
  have HH := Lib.hid H
  have HM := Lib.hid H.mac
  have HCH := Lib.hid H.chain
  have HC := Lib.hid (Scn.start w0)
  have hm := HC.out.rebase
  clear H hc
  unfold cch
  obtain ⟨E, ce, M, cm, R, cr, D, cd, C, cc⟩ := a
  dsimp only at HM HCH ⊢
  unfold cmdV at HCV HHD ⊢
  go_enter Tryz.func20, Tryz.ntmps20
  go_wp2_with (first | go_skip | ((with_reducible show wpList _ _ _ _ _ (World.alloc _ _)); refine wpList_up hm ?_; clear hm; intro n w hn hn2 hk hm hd hd2 ho; (try rw [← hn]); replace hn := Nat.le_of_eq hn.symm) | ((first | ((with_reducible show wpList _ _ _ (Oper.mk _ (Op.box _ _) _ _ _ _ :: _) _ _); (refine bxA hm ?_; clear hm; intro n w hn hz hm ho; (try simp only [List.cons_append, List.nil_append] at hm))) | ((with_reducible show wpList _ _ _ (Oper.mk _ (Op.load _ _) _ _ _ _ :: _) _ _); first | (refine ldA hm ?_) | (refine laA hm ?_)) | ((with_reducible show wpList _ _ _ (Oper.mk _ (Op.store _ _ _) _ _ _ _ :: _) _ _); (refine stA hm ?_; clear hm; intro w hz hm ho)) | ((with_reducible show wpList _ _ _ (Oper.mk _ (Op.alloc _) _ _ _ _ :: _) _ _); (refine alA hm ?_; clear hm; intro n w hn hz hm ho; (try simp only [List.cons_append, List.nil_append] at hm)))); try simp only [Act.put, sxQ]) | (go_at_call 51; refine (HCV.out _).mono ?_; rintro e w2 ⟨rfl, hbl⟩; replace hm := hm.below hbl) | ((with_reducible show Calls _ 43 #[_, Value.int _ 1] _ _); refine (HB1.out _).mono ?_; rintro e w2 ⟨rfl, rfl⟩) | ((with_reducible show Calls _ 43 #[_, Value.int _ 2] _ _); refine (HB2.out _).mono ?_; rintro e w2 ⟨rfl, rfl⟩))
  refine wp_region_noPanic ?_
  refine wp_region_held_drew (S := KnS _ _) (by kernel_rfl) (KnS.of hm.drew (Rngs.nil _)) (fun hHeld => ?_)
  refine wpAnyH_fresh (by repeat (first | apply Fresh.a | apply Fresh.b)) ?_
  replace hm := hm.drew
  iterate 9 (first | (refine takeN 0 hHeld ?_) | (refine takeY 0 ?_ hHeld ?_ ?_; rotate_left 1; (first | (intro w9 h9; (with_reducible show (execOp _ (Oper.mk _ (Op.load _ _) _ _ _ _)).run _ _ = _); first | exact h9.ldA | exact h9.lcA | exact h9.laA | exact h9.lrA) | focus (intro w9 hSw; go_simp; (try (with_reducible rfl)); done))); try simp only [Act.put, sxQ])
  iterate 4 (first | (refine takeN 10 hHeld ?_) | (refine takeY 10 ?_ hHeld ?_ ?_; rotate_left 1; (first | (intro w9 h9; (with_reducible show (execOp _ (Oper.mk _ (Op.load _ _) _ _ _ _)).run _ _ = _); first | exact h9.ldA | exact h9.lcA | exact h9.laA | exact h9.lrA) | focus (intro w9 hSw; go_simp; (try (with_reducible rfl)); done))); try simp only [Act.put, sxQ])
  refine wpAnyH_ready (rs := [9]) (by kernel_rfl) (by simp) ?_
  refine AllReadyH.cons2 (by simp only [sxN]; first | done | exact rfl) (fun K hK => ?_)
  rw [if_pos (by rfl)]
  go_simp
  refine (HHD.out _).mono ?_
  rintro e w5 ⟨A5, c5, rfl, hown, hbl⟩
  replace hm := hm.got hbl hown
  clear hown
  go_simp
  refine hK.out _ _ (KnS.of hm (Rngs.nil _)) (fun hHeld => ?_)
  clear hK K
  try simp only [Act.put, sxQ]
  refine wpAnyH_ready (rs := [14]) (by kernel_rfl) (by simp) ?_
  refine AllReadyH.cons2 (by simp only [sxN]; first | done | exact rfl) (fun K hK => ?_)
  rw [if_pos (by rfl)]
  go_simp
  refine K_up hm ?_
  intro n6 w6 hn hn6s hn6 hm1 hn6d hn6d2 hb6
  first | rw [← hn] | rw [← (show n6 = w5.heap.size from hn)]
  clear hn hm
  have hm := hm1.row hn6 hn6s hn6d hn6d2 1 2 [.slice A5 10 c5, .slice (some ⟨q, o, none⟩) k c] rfl rfl (by unfold maxLen; omega)
  clear hm1
  refine hK.out _ _ (KnS.of hm (Rngs.nil _)) (fun hHeld => ?_)
  clear hK K
  try simp only [Act.put, sxQ]
  refine wpAnyH_ready (rs := [15]) (by kernel_rfl) (by simp) ?_
  refine AllReadyH.cons2 (by simp only [sxN]; first | done | exact rfl) (fun K hK => ?_)
  rw [if_pos (by rfl)]
  go_simp
  refine (rjoin_list n6 [⟨A5, 10, c5, Sec.hdr cla ins p1 p2 ((k : Int) + 8) le⟩, ⟨some ⟨q, o, none⟩, k, c, b.take k⟩] 2 (k + 10) rfl _ (by exact (hm.sl_ 1 rfl).row) (by
    intro v hv
    simp only [List.mem_cons, List.not_mem_nil, or_false] at hv
    rcases hv with rfl | rfl
    · exact (HC.out.resync hm).byt 0 rfl
    · exact (HCU.out _ (HC.out.resync hm).low).1) (by simp [joined, Sec.hdr, Sec.three, HTL.out]) (by omega) (by omega)).mono ?_
  rintro e w7 ⟨A7, c7, rfl, hown, hbl⟩
  replace hm := hm.got hbl hown
  clear hown
  go_simp
  refine hK.out _ _ (KnS.of hm (Rngs.nil _)) (fun hHeld => ?_)
  clear hK K
  try simp only [Act.put, sxQ]
  refine wpAnyH_ready (rs := [16]) (by kernel_rfl) (by simp) ?_
  refine AllReadyH.cons2 (by simp only [sxN]; first | done | exact rfl) (fun K hK => ?_)
  rw [if_pos (by rfl)]
  go_simp
  refine (rmac_call M C A7 (k + 10) cm cc c7 s.mac s.chain (joined [⟨A5, 10, c5, Sec.hdr cla ins p1 p2 ((k : Int) + 8) le⟩, ⟨some ⟨q, o, none⟩, k, c, b.take k⟩]) _ ((HC.out.resync hm).old HM.out) ((HC.out.resync hm).old HCH.out) ((HC.out.resync hm).byt 2 rfl) (by omega)).mono ?_
  rintro e w8 ⟨A8, c8, rfl, hby, hnew, hbl8⟩
  rw [show Mod.mcB s.mac s.chain (joined [⟨A5, 10, c5, Sec.hdr cla ins p1 p2 ((k : Int) + 8) le⟩, ⟨some ⟨q, o, none⟩, k, c, b.take k⟩]) = Sec.cmac s cla ins p1 p2 le (b.take k) by simp only [joined, Sec.cmac, Sec.hdr, HTL.out]; simp] at hby
  have HN8 := Lib.hid (fun x (e : A8 = some x) => Nat.le_trans (HC.out.resync hm).size (hnew x e))
  have hc2 := (HC.out.resync hm).fresh hbl8 (bytSup hby) (fun q hq => by obtain ⟨x, e, rfl⟩ := blks_lone hq; exact .inl (hnew x e))
  clear hby hnew
  clear HC hm
  simp only [List.nil_append, List.cons_append, List.set_cons_zero, List.set_cons_succ] at hc2
  have HC := Lib.hid hc2
  clear hc2
  have hm := HC.out.rebase
  go_simp
  refine hK.out _ _ (KnS.of hm (Rngs.nil _)) (fun hHeld => ?_)
  clear hK K
  try simp only [Act.put, sxQ]
  iterate 5 (first | (refine takeN 17 hHeld ?_) | (refine takeY 17 ?_ hHeld ?_ ?_; rotate_left 1; (first | (intro w9 h9; (with_reducible show (execOp _ (Oper.mk _ (Op.load _ _) _ _ _ _)).run _ _ = _); first | exact h9.ldA | exact h9.lcA | exact h9.laA | exact h9.lrA) | focus (intro w9 hSw; go_simp; (try (with_reducible rfl)); done))); try simp only [Act.put, sxQ])
  refine wpAnyH_done (by kernel_rfl) ?_ _
  refine NoPanic.normal ?_
  go_wp2_with (first | go_skip | ((with_reducible show wpList _ _ _ _ _ (World.alloc _ _)); refine wpList_up hm ?_; clear hm; intro n w hn hn2 hk hm hd hd2 ho; (try rw [← hn]); replace hn := Nat.le_of_eq hn.symm) | ((first | ((with_reducible show wpList _ _ _ (Oper.mk _ (Op.box _ _) _ _ _ _ :: _) _ _); (refine bxA hm ?_; clear hm; intro n w hn hz hm ho; (try simp only [List.cons_append, List.nil_append] at hm))) | ((with_reducible show wpList _ _ _ (Oper.mk _ (Op.load _ _) _ _ _ _ :: _) _ _); first | (refine ldA hm ?_) | (refine laA hm ?_)) | ((with_reducible show wpList _ _ _ (Oper.mk _ (Op.store _ _ _) _ _ _ _ :: _) _ _); (refine stA hm ?_; clear hm; intro w hz hm ho)) | ((with_reducible show wpList _ _ _ (Oper.mk _ (Op.alloc _) _ _ _ _ :: _) _ _); (refine alA hm ?_; clear hm; intro n w hn hz hm ho; (try simp only [List.cons_append, List.nil_append] at hm)))); try simp only [Act.put, sxQ]))
  go_at_call 27
  refine (ref01_Same A8 (some ⟨q, o + k, none⟩) 8 8 c8 (c - k) _ (b.drop k) _ ((HC.out.resync hm).val 0 rfl) (HCU.out _ (HC.out.resync hm).low).2 (by omega) (by omega)).mono ?_
  rw [HSM.out]
  rintro e w9 ⟨rfl, k9, hk9⟩
  replace hm := hm.drewN k9
  rw [← hk9] at hm
  clear hk9
  go_wp2_with (first | go_skip | ((with_reducible show wpList _ _ _ _ _ (World.alloc _ _)); refine wpList_up hm ?_; clear hm; intro n w hn hn2 hk hm hd hd2 ho; (try rw [← hn]); replace hn := Nat.le_of_eq hn.symm) | ((first | ((with_reducible show wpList _ _ _ (Oper.mk _ (Op.box _ _) _ _ _ _ :: _) _ _); (refine bxA hm ?_; clear hm; intro n w hn hz hm ho; (try simp only [List.cons_append, List.nil_append] at hm))) | ((with_reducible show wpList _ _ _ (Oper.mk _ (Op.load _ _) _ _ _ _ :: _) _ _); first | (refine ldA hm ?_) | (refine laA hm ?_)) | ((with_reducible show wpList _ _ _ (Oper.mk _ (Op.store _ _ _) _ _ _ _ :: _) _ _); (refine stA hm ?_; clear hm; intro w hz hm ho)) | ((with_reducible show wpList _ _ _ (Oper.mk _ (Op.alloc _) _ _ _ _ :: _) _ _); (refine alA hm ?_; clear hm; intro n w hn hz hm ho; (try simp only [List.cons_append, List.nil_append] at hm)))); try simp only [Act.put, sxQ]) | ((with_reducible show Calls _ 43 #[_, Value.int _ 1] _ _); refine (HB1.out _).mono ?_; rintro e w2 ⟨rfl, rfl⟩) | ((with_reducible show Calls _ 43 #[_, Value.int _ 2] _ _); refine (HB2.out _).mono ?_; rintro e w2 ⟨rfl, rfl⟩))
  refine bodyPost_ret (results_row_row_tmp rfl _ _ _ 36 _ (0, 0) _ rfl (by exact hm.at_ 2 rfl) Tryz.underlying36 rfl (by kernel_rfl) _ 28 _ (0, 0) _ rfl (by exact hm.at_ 3 rfl) Tryz.underlying28 rfl (by kernel_rfl)) rfl ?_
  exact RWr.shut HH.out HS.out HE.out (by decide) (HC.out.resync hm).low
set_option maxRecDepth 100000 in
theorem runw_mac (w0 : World) (a : ChS) (s : Sec.S) (H : RSt w0 a s) (hc : s.cnt < 200) (cla ins p1 p2 : Int) (A : Option Addr) (dn c : Nat) (b : List UInt8) (h : Byt w0 w0.heap.size A dn c b) (hdn : dn ≤ 70000) (le : Int) (long : Bool) (hs : s.shut = false) (hp : Sec.covE s ⟨cla, ins, p1, p2, b, le, long⟩ = 0) (h1 : Sec.hb s.lvl 1 = true) (hq : b.drop (dn - 8) = Sec.cmac s cla ins p1 p2 le (b.take (dn - 8))) (h2 : Sec.hb s.lvl 2 = false) :
    Calls Tryz.prog 20 #[.agg (rst a s), cmdV cla ins p1 p2 A dn c le long] w0 (RWr w0 a s A dn (Sec.unwrap s ⟨cla, ins, p1, p2, b, le, long⟩) (Sec.unwrapE s ⟨cla, ins, p1, p2, b, le, long⟩)) := by
  obtain ⟨hck, hok, h16, hmm⟩ := Sec.cov_facts hp
  obtain ⟨h4, h8⟩ := hmm h1
  dsimp only at hok h16 h4 h8
  have hcv := ref24_covered a s H.ok.lvl cla ins p1 p2 A dn c b h.1 (by omega) le long
  have hE := Sec.unwrapE_cov (x := ⟨cla, ins, p1, p2, b, le, long⟩) hs
  rw [rst_shut hs] at hcv ⊢
  unfold cch at hcv
  have HS := Lib.hid hs
  rw [hp] at hcv
  have HCV := Lib.hid hcv
  rw [hp, if_neg (fun e => e rfl)] at hE
  have HB1 := Lib.hid (ref24_has H.ok.lvl (.inl rfl) h1)
  have HB2 := Lib.hid (ref24_has H.ok.lvl (.inr (.inl rfl)) (v := Sec.hb s.lvl 2) rfl)
  have HX := Lib.hid h
  have hcn : 0 ≤ (s.cnt : Int) ∧ (s.cnt : Int) < 200 := by omega
  obtain ⟨hcn0, hcn1⟩ := hcn
  obtain ⟨kc, hkc⟩ : ∃ kc : Nat, kc = s.cnt + 1 := ⟨_, rfl⟩
  have HKC := Lib.hid hkc
  have i4 : (s.cnt : Int) + 1 = (kc : Int) := by omega
  have HH1 := Lib.hid h1
  rw [if_neg (by rw [h1]; decide)] at hE
  replace hE : Sec.unwrapE s ⟨cla, ins, p1, p2, b, le, long⟩ = if b.drop (b.length - 8) ≠ Sec.cmac s cla ins p1 p2 le (b.take (b.length - 8)) then 17 else if Sec.hb s.lvl 2 = true ∧ Sec.show? { s with cnt := s.cnt + 1 } false (b.take (b.length - 8)) = none then 4 else 0 := hE
  rw [h.1] at hE
  rw [if_neg (fun e => e hq), if_neg (by rw [h2]; rintro ⟨e, _⟩; cases e)] at hE
  have HE := Lib.hid hE
  obtain ⟨hle0, hle1⟩ := chk_le (show Apd.chk cla ins p1 p2 b.length le long = 0 from hck)
  obtain ⟨k, rfl⟩ : ∃ k, dn = k + 8 := ⟨dn - 8, by have := h.1; omega⟩
  obtain ⟨q, o, rfl, _⟩ := h.at_ (by omega)
  rw [Nat.add_sub_cancel] at hq
  have hcc := h.2.1
  have j3 : ¬ c = k := by omega
  have j4 : k ≤ c := by omega
  have j5 : k < c := by omega
  have j6 : (k : Int) ≤ (k : Int) + 8 := by omega
  have HCU := Lib.hid (fun u (hu : Below w0.heap.size w0 u) => byt_cut ((h.below hu).more hu.size))
  have HTL := Lib.hid (show (b.take k).length = k by rw [List.length_take, h.1]; omega)
  have HHD := Lib.hid (ref24_header cla ins p1 p2 (some ⟨q, o, none⟩) (k + 8) c le long ((k : Int) + 8) (by omega) (by omega) hle0 hle1)
  have hsm : Oct.same (Sec.cmac s cla ins p1 p2 le (b.take k)) (b.drop k) = true := (Oct.same_iff _ _).2 hq.symm
  have HSM := Lib.hid hsm
  have HQ := Lib.hid hq
  have HBL := Lib.hid h.1
  have HCL := Lib.hid (fun u => ref04_Class cla u)
  rw [cls_sec hok h4 h16, hok] at HCL
  have hby := fun u => ref04_Byte (cla % 4) false false (cla / 128 == 1) u
  rw [(cby_sub hok h4 h16).1, (cby_sub hok h4 h16).2] at hby
  have HBY := Lib.hid hby
  unfold infoV at HCL HBY
  generalize (cla / 128 == 1) = o128 at *
  clear hby
  have HWD : Hid (Sec.unwrapD s ⟨cla, ins, p1, p2, b, le, long⟩ = b.take k) := Lib.hid (by
    unfold Sec.unwrapD
    show (if Sec.hb s.lvl 2 = true then (Sec.show? { s with cnt := s.cnt + 1 } false (b.take (b.length - 8))).getD [] else b.take (b.length - 8)) = _
    rw [h.1, Nat.add_sub_cancel, if_neg (by rw [h2]; decide)])
  rw [h2] at HB2
  clear hs hp hE h h1 hkc hcv hck hok h16 h4 h8 hmm hsm hq h2
  have HH := Lib.hid H
  have HM := Lib.hid H.mac
  have HCH := Lib.hid H.chain
  have HC := Lib.hid (Scn.start w0)
  have hm := HC.out.rebase
  clear H hc
  unfold cch
  obtain ⟨E, ce, M, cm, R, cr, D, cd, C, cc⟩ := a
  dsimp only at HM HCH ⊢
  unfold cmdV at HCV HHD ⊢
  go_enter Tryz.func20, Tryz.ntmps20
  go_wp2_with (first | go_skip | ((with_reducible show wpList _ _ _ _ _ (World.alloc _ _)); refine wpList_up hm ?_; clear hm; intro n w hn hn2 hk hm hd hd2 ho; (try rw [← hn]); replace hn := Nat.le_of_eq hn.symm) | ((first | ((with_reducible show wpList _ _ _ (Oper.mk _ (Op.box _ _) _ _ _ _ :: _) _ _); (refine bxA hm ?_; clear hm; intro n w hn hz hm ho; (try simp only [List.cons_append, List.nil_append] at hm))) | ((with_reducible show wpList _ _ _ (Oper.mk _ (Op.load _ _) _ _ _ _ :: _) _ _); first | (refine ldA hm ?_) | (refine laA hm ?_)) | ((with_reducible show wpList _ _ _ (Oper.mk _ (Op.store _ _ _) _ _ _ _ :: _) _ _); (refine stA hm ?_; clear hm; intro w hz hm ho)) | ((with_reducible show wpList _ _ _ (Oper.mk _ (Op.alloc _) _ _ _ _ :: _) _ _); (refine alA hm ?_; clear hm; intro n w hn hz hm ho; (try simp only [List.cons_append, List.nil_append] at hm)))); try simp only [Act.put, sxQ]) | (go_at_call 51; refine (HCV.out _).mono ?_; rintro e w2 ⟨rfl, hbl⟩; replace hm := hm.below hbl) | ((with_reducible show Calls _ 43 #[_, Value.int _ 1] _ _); refine (HB1.out _).mono ?_; rintro e w2 ⟨rfl, rfl⟩) | ((with_reducible show Calls _ 43 #[_, Value.int _ 2] _ _); refine (HB2.out _).mono ?_; rintro e w2 ⟨rfl, rfl⟩))
  refine wp_region_noPanic ?_
  refine wp_region_held_drew (S := KnS _ _) (by kernel_rfl) (KnS.of hm.drew (Rngs.nil _)) (fun hHeld => ?_)
  refine wpAnyH_fresh (by repeat (first | apply Fresh.a | apply Fresh.b)) ?_
  replace hm := hm.drew
  iterate 9 (first | (refine takeN 0 hHeld ?_) | (refine takeY 0 ?_ hHeld ?_ ?_; rotate_left 1; (first | (intro w9 h9; (with_reducible show (execOp _ (Oper.mk _ (Op.load _ _) _ _ _ _)).run _ _ = _); first | exact h9.ldA | exact h9.lcA | exact h9.laA | exact h9.lrA) | focus (intro w9 hSw; go_simp; (try (with_reducible rfl)); done))); try simp only [Act.put, sxQ])
  iterate 4 (first | (refine takeN 10 hHeld ?_) | (refine takeY 10 ?_ hHeld ?_ ?_; rotate_left 1; (first | (intro w9 h9; (with_reducible show (execOp _ (Oper.mk _ (Op.load _ _) _ _ _ _)).run _ _ = _); first | exact h9.ldA | exact h9.lcA | exact h9.laA | exact h9.lrA) | focus (intro w9 hSw; go_simp; (try (with_reducible rfl)); done))); try simp only [Act.put, sxQ])
  refine wpAnyH_ready (rs := [9]) (by kernel_rfl) (by simp) ?_
  refine AllReadyH.cons2 (by simp only [sxN]; first | done | exact rfl) (fun K hK => ?_)
  rw [if_pos (by rfl)]
  go_simp
  refine (HHD.out _).mono ?_
  rintro e w5 ⟨A5, c5, rfl, hown, hbl⟩
  replace hm := hm.got hbl hown
  clear hown
  go_simp
  refine hK.out _ _ (KnS.of hm (Rngs.nil _)) (fun hHeld => ?_)
  clear hK K
  try simp only [Act.put, sxQ]
  refine wpAnyH_ready (rs := [14]) (by kernel_rfl) (by simp) ?_
  refine AllReadyH.cons2 (by simp only [sxN]; first | done | exact rfl) (fun K hK => ?_)
  rw [if_pos (by rfl)]
  go_simp
  refine K_up hm ?_
  intro n6 w6 hn hn6s hn6 hm1 hn6d hn6d2 hb6
  first | rw [← hn] | rw [← (show n6 = w5.heap.size from hn)]
  clear hn hm
  have hm := hm1.row hn6 hn6s hn6d hn6d2 1 2 [.slice A5 10 c5, .slice (some ⟨q, o, none⟩) k c] rfl rfl (by unfold maxLen; omega)
  clear hm1
  refine hK.out _ _ (KnS.of hm (Rngs.nil _)) (fun hHeld => ?_)
  clear hK K
  try simp only [Act.put, sxQ]
  refine wpAnyH_ready (rs := [15]) (by kernel_rfl) (by simp) ?_
  refine AllReadyH.cons2 (by simp only [sxN]; first | done | exact rfl) (fun K hK => ?_)
  rw [if_pos (by rfl)]
  go_simp
  refine (rjoin_list n6 [⟨A5, 10, c5, Sec.hdr cla ins p1 p2 ((k : Int) + 8) le⟩, ⟨some ⟨q, o, none⟩, k, c, b.take k⟩] 2 (k + 10) rfl _ (by exact (hm.sl_ 1 rfl).row) (by
    intro v hv
    simp only [List.mem_cons, List.not_mem_nil, or_false] at hv
    rcases hv with rfl | rfl
    · exact (HC.out.resync hm).byt 0 rfl
    · exact (HCU.out _ (HC.out.resync hm).low).1) (by simp [joined, Sec.hdr, Sec.three, HTL.out]) (by omega) (by omega)).mono ?_
  rintro e w7 ⟨A7, c7, rfl, hown, hbl⟩
  replace hm := hm.got hbl hown
  clear hown
  go_simp
  refine hK.out _ _ (KnS.of hm (Rngs.nil _)) (fun hHeld => ?_)
  clear hK K
  try simp only [Act.put, sxQ]
  refine wpAnyH_ready (rs := [16]) (by kernel_rfl) (by simp) ?_
  refine AllReadyH.cons2 (by simp only [sxN]; first | done | exact rfl) (fun K hK => ?_)
  rw [if_pos (by rfl)]
  go_simp
  refine (rmac_call M C A7 (k + 10) cm cc c7 s.mac s.chain (joined [⟨A5, 10, c5, Sec.hdr cla ins p1 p2 ((k : Int) + 8) le⟩, ⟨some ⟨q, o, none⟩, k, c, b.take k⟩]) _ ((HC.out.resync hm).old HM.out) ((HC.out.resync hm).old HCH.out) ((HC.out.resync hm).byt 2 rfl) (by omega)).mono ?_
  rintro e w8 ⟨A8, c8, rfl, hby, hnew, hbl8⟩
  rw [show Mod.mcB s.mac s.chain (joined [⟨A5, 10, c5, Sec.hdr cla ins p1 p2 ((k : Int) + 8) le⟩, ⟨some ⟨q, o, none⟩, k, c, b.take k⟩]) = Sec.cmac s cla ins p1 p2 le (b.take k) by simp only [joined, Sec.cmac, Sec.hdr, HTL.out]; simp] at hby
  have HN8 := Lib.hid (fun x (e : A8 = some x) => Nat.le_trans (HC.out.resync hm).size (hnew x e))
  have hc2 := (HC.out.resync hm).fresh hbl8 (bytSup hby) (fun q hq => by obtain ⟨x, e, rfl⟩ := blks_lone hq; exact .inl (hnew x e))
  clear hby hnew
  clear HC hm
  simp only [List.nil_append, List.cons_append, List.set_cons_zero, List.set_cons_succ] at hc2
  have HC := Lib.hid hc2
  clear hc2
  have hm := HC.out.rebase
  go_simp
  refine hK.out _ _ (KnS.of hm (Rngs.nil _)) (fun hHeld => ?_)
  clear hK K
  try simp only [Act.put, sxQ]
  iterate 5 (first | (refine takeN 17 hHeld ?_) | (refine takeY 17 ?_ hHeld ?_ ?_; rotate_left 1; (first | (intro w9 h9; (with_reducible show (execOp _ (Oper.mk _ (Op.load _ _) _ _ _ _)).run _ _ = _); first | exact h9.ldA | exact h9.lcA | exact h9.laA | exact h9.lrA) | focus (intro w9 hSw; go_simp; (try (with_reducible rfl)); done))); try simp only [Act.put, sxQ])
  refine wpAnyH_done (by kernel_rfl) ?_ _
  refine NoPanic.normal ?_
  go_wp2_with (first | go_skip | ((with_reducible show wpList _ _ _ _ _ (World.alloc _ _)); refine wpList_up hm ?_; clear hm; intro n w hn hn2 hk hm hd hd2 ho; (try rw [← hn]); replace hn := Nat.le_of_eq hn.symm) | ((first | ((with_reducible show wpList _ _ _ (Oper.mk _ (Op.box _ _) _ _ _ _ :: _) _ _); (refine bxA hm ?_; clear hm; intro n w hn hz hm ho; (try simp only [List.cons_append, List.nil_append] at hm))) | ((with_reducible show wpList _ _ _ (Oper.mk _ (Op.load _ _) _ _ _ _ :: _) _ _); first | (refine ldA hm ?_) | (refine laA hm ?_)) | ((with_reducible show wpList _ _ _ (Oper.mk _ (Op.store _ _ _) _ _ _ _ :: _) _ _); (refine stA hm ?_; clear hm; intro w hz hm ho)) | ((with_reducible show wpList _ _ _ (Oper.mk _ (Op.alloc _) _ _ _ _ :: _) _ _); (refine alA hm ?_; clear hm; intro n w hn hz hm ho; (try simp only [List.cons_append, List.nil_append] at hm)))); try simp only [Act.put, sxQ]))
  go_at_call 27
  refine (ref01_Same A8 (some ⟨q, o + k, none⟩) 8 8 c8 (c - k) _ (b.drop k) _ ((HC.out.resync hm).val 0 rfl) (HCU.out _ (HC.out.resync hm).low).2 (by omega) (by omega)).mono ?_
  rw [HSM.out]
  rintro e w9 ⟨rfl, k9, hk9⟩
  replace hm := hm.drewN k9
  rw [← hk9] at hm
  clear hk9
  go_wp2_with (first | go_skip | ((with_reducible show wpList _ _ _ _ _ (World.alloc _ _)); refine wpList_up hm ?_; clear hm; intro n w hn hn2 hk hm hd hd2 ho; (try rw [← hn]); replace hn := Nat.le_of_eq hn.symm) | ((first | ((with_reducible show wpList _ _ _ (Oper.mk _ (Op.box _ _) _ _ _ _ :: _) _ _); (refine bxA hm ?_; clear hm; intro n w hn hz hm ho; (try simp only [List.cons_append, List.nil_append] at hm))) | ((with_reducible show wpList _ _ _ (Oper.mk _ (Op.load _ _) _ _ _ _ :: _) _ _); first | (refine ldA hm ?_) | (refine laA hm ?_)) | ((with_reducible show wpList _ _ _ (Oper.mk _ (Op.store _ _ _) _ _ _ _ :: _) _ _); (refine stA hm ?_; clear hm; intro w hz hm ho)) | ((with_reducible show wpList _ _ _ (Oper.mk _ (Op.alloc _) _ _ _ _ :: _) _ _); (refine alA hm ?_; clear hm; intro n w hn hz hm ho; (try simp only [List.cons_append, List.nil_append] at hm)))); try simp only [Act.put, sxQ]) | ((with_reducible show Calls _ 43 #[_, Value.int _ 1] _ _); refine (HB1.out _).mono ?_; rintro e w2 ⟨rfl, rfl⟩) | ((with_reducible show Calls _ 43 #[_, Value.int _ 2] _ _); refine (HB2.out _).mono ?_; rintro e w2 ⟨rfl, rfl⟩) | (go_at_call 45; refine (HCL.out _).mono ?_; rintro e w2 ⟨rfl, hbl⟩; replace hm := hm.below hbl) | (go_at_call 46; refine (HBY.out _).mono ?_; rintro e w2 ⟨rfl, hbl⟩; replace hm := hm.below hbl))
  have hw9 := (hm.drew.wo 3).wo 2
  simp only [List.eraseIdx_cons_zero, List.eraseIdx_cons_succ] at hw9
  refine wp_region_noPanic ?_
  refine wp_region_held_drew (S := MemS _ _ _ _) (by kernel_rfl) (MemS.of hw9) (fun hHeld => ?_)
  refine wpAnyH_fresh (by repeat (first | apply Fresh.a | apply Fresh.b)) ?_
  clear hw9
  replace hm := hm.drew
  iterate 2 (first | (refine takeN 0 hHeld ?_) | (refine takeY 0 ?_ hHeld ?_ ?_; rotate_left 1; (first | (intro w9 h9; (with_reducible show (execOp _ (Oper.mk _ (Op.load _ _) _ _ _ _)).run _ _ = _); first | exact h9.ldA | exact h9.laA) | focus (intro w9 hSw; go_simp; (try (with_reducible rfl)); done))); try simp only [Act.put, sxQ])
  refine wpAnyH_ready (rs := [2]) (by kernel_rfl) (by simp) ?_
  refine AllReadyH.cons2 (by simp only [sxN]; first | done | exact rfl) (fun K hK => ?_)
  refine stB hm ?_
  clear hm; intro w hz hm ho
  refine hK.out _ _ (MemS.of ((hm.wo 3).wo 2)) (fun hHeld => ?_)
  clear hK K
  try simp only [Act.put, sxQ]
  refine wpAnyH_ready (rs := [3]) (by kernel_rfl) (by simp) ?_
  refine AllReadyH.cons2 (by simp only [sxN]; first | done | exact rfl) (fun K hK => ?_)
  refine stB hm ?_
  clear hm; intro w hz hm ho
  refine hK.out _ _ (MemS.of ((hm.wo 3).wo 2)) (fun hHeld => ?_)
  clear hK K
  try simp only [Act.put, sxQ]
  iterate 1 (first | (refine takeN 4 hHeld ?_) | (refine takeY 4 ?_ hHeld ?_ ?_; rotate_left 1; (first | (intro w9 h9; (with_reducible show (execOp _ (Oper.mk _ (Op.load _ _) _ _ _ _)).run _ _ = _); first | exact h9.ldA) | focus (intro w9 hSw; go_simp; (try (with_reducible rfl)); done))); try simp only [Act.put, sxQ])
  refine wpAnyH_done (by kernel_rfl) ?_ _
  refine NoPanic.normal ?_
  go_wp2_with fail
  refine bodyPost_ret (results_row_row_tmp rfl _ _ _ 36 _ (0, 0) _ rfl (by exact hm.at_ 2 rfl) Tryz.underlying36 rfl (by kernel_rfl) _ 28 _ (0, 0) _ rfl (by exact hm.at_ 3 rfl) Tryz.underlying28 rfl (by kernel_rfl)) rfl ?_
  have hk := HKC.out
  subst hk
  exact RWr.umac HH.out HS.out HE.out HH1.out HWD.out (by show b.drop (b.length - 8) = _; rw [HBL.out, Nat.add_sub_cancel]; exact HQ.out) HTL.out (HCU.out _ (HC.out.resync hm).low).1 (fun F hF => hF.cut (by omega)) ((HC.out.resync hm).val 0 rfl) HN8.out (HC.out.resync hm).low
set_option maxRecDepth 100000 in
theorem runw_bad (w0 : World) (a : ChS) (s : Sec.S) (H : RSt w0 a s) (hc : s.cnt < 200) (cla ins p1 p2 : Int) (A : Option Addr) (dn c : Nat) (b : List UInt8) (h : Byt w0 w0.heap.size A dn c b) (hdn : dn ≤ 70000) (le : Int) (long : Bool) (hs : s.shut = false) (hp : Sec.covE s ⟨cla, ins, p1, p2, b, le, long⟩ = 0) (h1 : Sec.hb s.lvl 1 = true) (hq : b.drop (dn - 8) = Sec.cmac s cla ins p1 p2 le (b.take (dn - 8))) (h2 : Sec.hb s.lvl 2 = true) (hd : Sec.show? { s with cnt := s.cnt + 1 } false (b.take (dn - 8)) = none) :
    Calls Tryz.prog 20 #[.agg (rst a s), cmdV cla ins p1 p2 A dn c le long] w0 (RWr w0 a s A dn (Sec.unwrap s ⟨cla, ins, p1, p2, b, le, long⟩) (Sec.unwrapE s ⟨cla, ins, p1, p2, b, le, long⟩)) := by
  obtain ⟨hck, hok, h16, hmm⟩ := Sec.cov_facts hp
  obtain ⟨h4, h8⟩ := hmm h1
  dsimp only at hok h16 h4 h8
  have hcv := ref24_covered a s H.ok.lvl cla ins p1 p2 A dn c b h.1 (by omega) le long
  have hE := Sec.unwrapE_cov (x := ⟨cla, ins, p1, p2, b, le, long⟩) hs
  rw [rst_shut hs] at hcv ⊢
  unfold cch at hcv
  have HS := Lib.hid hs
  rw [hp] at hcv
  have HCV := Lib.hid hcv
  rw [hp, if_neg (fun e => e rfl)] at hE
  have HB1 := Lib.hid (ref24_has H.ok.lvl (.inl rfl) h1)
  have HB2 := Lib.hid (ref24_has H.ok.lvl (.inr (.inl rfl)) (v := Sec.hb s.lvl 2) rfl)
  have HX := Lib.hid h
  have hcn : 0 ≤ (s.cnt : Int) ∧ (s.cnt : Int) < 200 := by omega
  obtain ⟨hcn0, hcn1⟩ := hcn
  obtain ⟨kc, hkc⟩ : ∃ kc : Nat, kc = s.cnt + 1 := ⟨_, rfl⟩
  have HKC := Lib.hid hkc
  have i4 : (s.cnt : Int) + 1 = (kc : Int) := by omega
  have HH1 := Lib.hid h1
  rw [if_neg (by rw [h1]; decide)] at hE
  replace hE : Sec.unwrapE s ⟨cla, ins, p1, p2, b, le, long⟩ = if b.drop (b.length - 8) ≠ Sec.cmac s cla ins p1 p2 le (b.take (b.length - 8)) then 17 else if Sec.hb s.lvl 2 = true ∧ Sec.show? { s with cnt := s.cnt + 1 } false (b.take (b.length - 8)) = none then 4 else 0 := hE
  rw [h.1] at hE
  rw [if_neg (fun e => e hq), if_pos ⟨h2, hd⟩] at hE
  have HE := Lib.hid hE
  obtain ⟨hle0, hle1⟩ := chk_le (show Apd.chk cla ins p1 p2 b.length le long = 0 from hck)
  obtain ⟨k, rfl⟩ : ∃ k, dn = k + 8 := ⟨dn - 8, by have := h.1; omega⟩
  obtain ⟨q, o, rfl, _⟩ := h.at_ (by omega)
  rw [Nat.add_sub_cancel] at hq
  have hcc := h.2.1
  have j3 : ¬ c = k := by omega
  have j4 : k ≤ c := by omega
  have j5 : k < c := by omega
  have j6 : (k : Int) ≤ (k : Int) + 8 := by omega
  have HCU := Lib.hid (fun u (hu : Below w0.heap.size w0 u) => byt_cut ((h.below hu).more hu.size))
  have HTL := Lib.hid (show (b.take k).length = k by rw [List.length_take, h.1]; omega)
  have HHD := Lib.hid (ref24_header cla ins p1 p2 (some ⟨q, o, none⟩) (k + 8) c le long ((k : Int) + 8) (by omega) (by omega) hle0 hle1)
  have hsm : Oct.same (Sec.cmac s cla ins p1 p2 le (b.take k)) (b.drop k) = true := (Oct.same_iff _ _).2 hq.symm
  have HSM := Lib.hid hsm
  have HQ := Lib.hid hq
  have HBL := Lib.hid h.1
  rw [Nat.add_sub_cancel] at hd
  have hsh : ∀ (A8 : Option Addr) (c8 : Nat) (u : World) (hu : Below w0.heap.size w0 u), Byt u u.heap.size A8 8 c8 (Sec.cmac s cla ins p1 p2 le (b.take k)) → Calls Tryz.prog 52 #[.agg (cch { a with C := A8, cc := c8 } s.lvl kc true false), .int .i64 0, .slice (some ⟨q, o, none⟩) k c] u (ShowR u (none)) := fun A8 c8 u hu hb8 => by
    have hR := H.below hu
    have h9 := ref24_show u { a with C := A8, cc := c8 } { s with cnt := s.cnt + 1, exp := true, chain := Sec.cmac s cla ins p1 p2 le (b.take k) } ⟨{ enc := H.ok.enc, mac := H.ok.mac, rmac := H.ok.rmac, dat := H.ok.dat, lvl := H.ok.lvl, chain := hb8.1 }, hR.enc, hR.mac, hR.rmac, hR.dat, hb8⟩ (by show s.cnt + 1 < 256; omega) (some ⟨q, o, none⟩) k c (b.take k) (byt_cut ((h.below hu).more hu.size)).1 (by omega) false
    rw [rst_shut (s := { s with cnt := s.cnt + 1, exp := true, chain := Sec.cmac s cla ins p1 p2 le (b.take k) }) hs] at h9
    rw [show Sec.show? { s with cnt := s.cnt + 1, exp := true, chain := Sec.cmac s cla ins p1 p2 le (b.take k) } false (b.take k) = none from hd] at h9
    rw [hkc]
    exact h9
  unfold cch at hsh
  have HSH := Lib.hid hsh
  rw [h2] at HB2
  clear hs hp hE h h1 hkc hcv hck hok h16 h4 h8 hmm hsm hq hd h2 hsh
  have HH := Lib.hid H
  have HM := Lib.hid H.mac
  have HCH := Lib.hid H.chain
  have HC := Lib.hid (Scn.start w0)
  have hm := HC.out.rebase
  clear H hc
  unfold cch
  obtain ⟨E, ce, M, cm, R, cr, D, cd, C, cc⟩ := a
  dsimp only at HM HCH HSH ⊢
  unfold cmdV at HCV HHD ⊢
  go_enter Tryz.func20, Tryz.ntmps20
  go_wp2_with (first | go_skip | ((with_reducible show wpList _ _ _ _ _ (World.alloc _ _)); refine wpList_up hm ?_; clear hm; intro n w hn hn2 hk hm hd hd2 ho; (try rw [← hn]); replace hn := Nat.le_of_eq hn.symm) | ((first | ((with_reducible show wpList _ _ _ (Oper.mk _ (Op.box _ _) _ _ _ _ :: _) _ _); (refine bxA hm ?_; clear hm; intro n w hn hz hm ho; (try simp only [List.cons_append, List.nil_append] at hm))) | ((with_reducible show wpList _ _ _ (Oper.mk _ (Op.load _ _) _ _ _ _ :: _) _ _); first | (refine ldA hm ?_) | (refine laA hm ?_)) | ((with_reducible show wpList _ _ _ (Oper.mk _ (Op.store _ _ _) _ _ _ _ :: _) _ _); (refine stA hm ?_; clear hm; intro w hz hm ho)) | ((with_reducible show wpList _ _ _ (Oper.mk _ (Op.alloc _) _ _ _ _ :: _) _ _); (refine alA hm ?_; clear hm; intro n w hn hz hm ho; (try simp only [List.cons_append, List.nil_append] at hm)))); try simp only [Act.put, sxQ]) | (go_at_call 51; refine (HCV.out _).mono ?_; rintro e w2 ⟨rfl, hbl⟩; replace hm := hm.below hbl) | ((with_reducible show Calls _ 43 #[_, Value.int _ 1] _ _); refine (HB1.out _).mono ?_; rintro e w2 ⟨rfl, rfl⟩) | ((with_reducible show Calls _ 43 #[_, Value.int _ 2] _ _); refine (HB2.out _).mono ?_; rintro e w2 ⟨rfl, rfl⟩))
  refine wp_region_noPanic ?_
  refine wp_region_held_drew (S := KnS _ _) (by kernel_rfl) (KnS.of hm.drew (Rngs.nil _)) (fun hHeld => ?_)
  refine wpAnyH_fresh (by repeat (first | apply Fresh.a | apply Fresh.b)) ?_
  replace hm := hm.drew
  iterate 9 (first | (refine takeN 0 hHeld ?_) | (refine takeY 0 ?_ hHeld ?_ ?_; rotate_left 1; (first | (intro w9 h9; (with_reducible show (execOp _ (Oper.mk _ (Op.load _ _) _ _ _ _)).run _ _ = _); first | exact h9.ldA | exact h9.lcA | exact h9.laA | exact h9.lrA) | focus (intro w9 hSw; go_simp; (try (with_reducible rfl)); done))); try simp only [Act.put, sxQ])
  iterate 4 (first | (refine takeN 10 hHeld ?_) | (refine takeY 10 ?_ hHeld ?_ ?_; rotate_left 1; (first | (intro w9 h9; (with_reducible show (execOp _ (Oper.mk _ (Op.load _ _) _ _ _ _)).run _ _ = _); first | exact h9.ldA | exact h9.lcA | exact h9.laA | exact h9.lrA) | focus (intro w9 hSw; go_simp; (try (with_reducible rfl)); done))); try simp only [Act.put, sxQ])
  refine wpAnyH_ready (rs := [9]) (by kernel_rfl) (by simp) ?_
  refine AllReadyH.cons2 (by simp only [sxN]; first | done | exact rfl) (fun K hK => ?_)
  rw [if_pos (by rfl)]
  go_simp
  refine (HHD.out _).mono ?_
  rintro e w5 ⟨A5, c5, rfl, hown, hbl⟩
  replace hm := hm.got hbl hown
  clear hown
  go_simp
  refine hK.out _ _ (KnS.of hm (Rngs.nil _)) (fun hHeld => ?_)
  clear hK K
  try simp only [Act.put, sxQ]
  refine wpAnyH_ready (rs := [14]) (by kernel_rfl) (by simp) ?_
  refine AllReadyH.cons2 (by simp only [sxN]; first | done | exact rfl) (fun K hK => ?_)
  rw [if_pos (by rfl)]
  go_simp
  refine K_up hm ?_
  intro n6 w6 hn hn6s hn6 hm1 hn6d hn6d2 hb6
  first | rw [← hn] | rw [← (show n6 = w5.heap.size from hn)]
  clear hn hm
  have hm := hm1.row hn6 hn6s hn6d hn6d2 1 2 [.slice A5 10 c5, .slice (some ⟨q, o, none⟩) k c] rfl rfl (by unfold maxLen; omega)
  clear hm1
  refine hK.out _ _ (KnS.of hm (Rngs.nil _)) (fun hHeld => ?_)
  clear hK K
  try simp only [Act.put, sxQ]
  refine wpAnyH_ready (rs := [15]) (by kernel_rfl) (by simp) ?_
  refine AllReadyH.cons2 (by simp only [sxN]; first | done | exact rfl) (fun K hK => ?_)
  rw [if_pos (by rfl)]
  go_simp
  refine (rjoin_list n6 [⟨A5, 10, c5, Sec.hdr cla ins p1 p2 ((k : Int) + 8) le⟩, ⟨some ⟨q, o, none⟩, k, c, b.take k⟩] 2 (k + 10) rfl _ (by exact (hm.sl_ 1 rfl).row) (by
    intro v hv
    simp only [List.mem_cons, List.not_mem_nil, or_false] at hv
    rcases hv with rfl | rfl
    · exact (HC.out.resync hm).byt 0 rfl
    · exact (HCU.out _ (HC.out.resync hm).low).1) (by simp [joined, Sec.hdr, Sec.three, HTL.out]) (by omega) (by omega)).mono ?_
  rintro e w7 ⟨A7, c7, rfl, hown, hbl⟩
  replace hm := hm.got hbl hown
  clear hown
  go_simp
  refine hK.out _ _ (KnS.of hm (Rngs.nil _)) (fun hHeld => ?_)
  clear hK K
  try simp only [Act.put, sxQ]
  refine wpAnyH_ready (rs := [16]) (by kernel_rfl) (by simp) ?_
  refine AllReadyH.cons2 (by simp only [sxN]; first | done | exact rfl) (fun K hK => ?_)
  rw [if_pos (by rfl)]
  go_simp
  refine (rmac_call M C A7 (k + 10) cm cc c7 s.mac s.chain (joined [⟨A5, 10, c5, Sec.hdr cla ins p1 p2 ((k : Int) + 8) le⟩, ⟨some ⟨q, o, none⟩, k, c, b.take k⟩]) _ ((HC.out.resync hm).old HM.out) ((HC.out.resync hm).old HCH.out) ((HC.out.resync hm).byt 2 rfl) (by omega)).mono ?_
  rintro e w8 ⟨A8, c8, rfl, hby, hnew, hbl8⟩
  rw [show Mod.mcB s.mac s.chain (joined [⟨A5, 10, c5, Sec.hdr cla ins p1 p2 ((k : Int) + 8) le⟩, ⟨some ⟨q, o, none⟩, k, c, b.take k⟩]) = Sec.cmac s cla ins p1 p2 le (b.take k) by simp only [joined, Sec.cmac, Sec.hdr, HTL.out]; simp] at hby
  have HN8 := Lib.hid (fun x (e : A8 = some x) => Nat.le_trans (HC.out.resync hm).size (hnew x e))
  have hc2 := (HC.out.resync hm).fresh hbl8 (bytSup hby) (fun q hq => by obtain ⟨x, e, rfl⟩ := blks_lone hq; exact .inl (hnew x e))
  clear hby hnew
  clear HC hm
  simp only [List.nil_append, List.cons_append, List.set_cons_zero, List.set_cons_succ] at hc2
  have HC := Lib.hid hc2
  clear hc2
  have hm := HC.out.rebase
  go_simp
  refine hK.out _ _ (KnS.of hm (Rngs.nil _)) (fun hHeld => ?_)
  clear hK K
  try simp only [Act.put, sxQ]
  iterate 5 (first | (refine takeN 17 hHeld ?_) | (refine takeY 17 ?_ hHeld ?_ ?_; rotate_left 1; (first | (intro w9 h9; (with_reducible show (execOp _ (Oper.mk _ (Op.load _ _) _ _ _ _)).run _ _ = _); first | exact h9.ldA | exact h9.lcA | exact h9.laA | exact h9.lrA) | focus (intro w9 hSw; go_simp; (try (with_reducible rfl)); done))); try simp only [Act.put, sxQ])
  refine wpAnyH_done (by kernel_rfl) ?_ _
  refine NoPanic.normal ?_
  go_wp2_with (first | go_skip | ((with_reducible show wpList _ _ _ _ _ (World.alloc _ _)); refine wpList_up hm ?_; clear hm; intro n w hn hn2 hk hm hd hd2 ho; (try rw [← hn]); replace hn := Nat.le_of_eq hn.symm) | ((first | ((with_reducible show wpList _ _ _ (Oper.mk _ (Op.box _ _) _ _ _ _ :: _) _ _); (refine bxA hm ?_; clear hm; intro n w hn hz hm ho; (try simp only [List.cons_append, List.nil_append] at hm))) | ((with_reducible show wpList _ _ _ (Oper.mk _ (Op.load _ _) _ _ _ _ :: _) _ _); first | (refine ldA hm ?_) | (refine laA hm ?_)) | ((with_reducible show wpList _ _ _ (Oper.mk _ (Op.store _ _ _) _ _ _ _ :: _) _ _); (refine stA hm ?_; clear hm; intro w hz hm ho)) | ((with_reducible show wpList _ _ _ (Oper.mk _ (Op.alloc _) _ _ _ _ :: _) _ _); (refine alA hm ?_; clear hm; intro n w hn hz hm ho; (try simp only [List.cons_append, List.nil_append] at hm)))); try simp only [Act.put, sxQ]))
  go_at_call 27
  refine (ref01_Same A8 (some ⟨q, o + k, none⟩) 8 8 c8 (c - k) _ (b.drop k) _ ((HC.out.resync hm).val 0 rfl) (HCU.out _ (HC.out.resync hm).low).2 (by omega) (by omega)).mono ?_
  rw [HSM.out]
  rintro e w9 ⟨rfl, k9, hk9⟩
  replace hm := hm.drewN k9
  rw [← hk9] at hm
  clear hk9
  go_wp2_with (first | go_skip | ((with_reducible show wpList _ _ _ _ _ (World.alloc _ _)); refine wpList_up hm ?_; clear hm; intro n w hn hn2 hk hm hd hd2 ho; (try rw [← hn]); replace hn := Nat.le_of_eq hn.symm) | ((first | ((with_reducible show wpList _ _ _ (Oper.mk _ (Op.box _ _) _ _ _ _ :: _) _ _); (refine bxA hm ?_; clear hm; intro n w hn hz hm ho; (try simp only [List.cons_append, List.nil_append] at hm))) | ((with_reducible show wpList _ _ _ (Oper.mk _ (Op.load _ _) _ _ _ _ :: _) _ _); first | (refine ldA hm ?_) | (refine laA hm ?_)) | ((with_reducible show wpList _ _ _ (Oper.mk _ (Op.store _ _ _) _ _ _ _ :: _) _ _); (refine stA hm ?_; clear hm; intro w hz hm ho)) | ((with_reducible show wpList _ _ _ (Oper.mk _ (Op.alloc _) _ _ _ _ :: _) _ _); (refine alA hm ?_; clear hm; intro n w hn hz hm ho; (try simp only [List.cons_append, List.nil_append] at hm)))); try simp only [Act.put, sxQ]) | ((with_reducible show Calls _ 43 #[_, Value.int _ 1] _ _); refine (HB1.out _).mono ?_; rintro e w2 ⟨rfl, rfl⟩) | ((with_reducible show Calls _ 43 #[_, Value.int _ 2] _ _); refine (HB2.out _).mono ?_; rintro e w2 ⟨rfl, rfl⟩))
  go_at_call 52
  refine (HSH.out A8 c8 _ (HC.out.resync hm).low ((HC.out.resync hm).val 0 rfl)).mono ?_
  rintro e w2 ⟨hbl, (⟨_, A9, c9, rfl⟩ | ⟨d9, A9, n9, c9, e9, _⟩)⟩
  rotate_left 1
  · cases e9
  replace hm := hm.below hbl
  go_wp2_with (first | go_skip | ((with_reducible show wpList _ _ _ _ _ (World.alloc _ _)); refine wpList_up hm ?_; clear hm; intro n w hn hn2 hk hm hd hd2 ho; (try rw [← hn]); replace hn := Nat.le_of_eq hn.symm) | ((first | ((with_reducible show wpList _ _ _ (Oper.mk _ (Op.box _ _) _ _ _ _ :: _) _ _); (refine bxA hm ?_; clear hm; intro n w hn hz hm ho; (try simp only [List.cons_append, List.nil_append] at hm))) | ((with_reducible show wpList _ _ _ (Oper.mk _ (Op.load _ _) _ _ _ _ :: _) _ _); first | (refine ldA hm ?_) | (refine laA hm ?_)) | ((with_reducible show wpList _ _ _ (Oper.mk _ (Op.store _ _ _) _ _ _ _ :: _) _ _); (refine stA hm ?_; clear hm; intro w hz hm ho)) | ((with_reducible show wpList _ _ _ (Oper.mk _ (Op.alloc _) _ _ _ _ :: _) _ _); (refine alA hm ?_; clear hm; intro n w hn hz hm ho; (try simp only [List.cons_append, List.nil_append] at hm)))); try simp only [Act.put, sxQ]) | ((with_reducible show Calls _ 43 #[_, Value.int _ 1] _ _); refine (HB1.out _).mono ?_; rintro e w2 ⟨rfl, rfl⟩) | ((with_reducible show Calls _ 43 #[_, Value.int _ 2] _ _); refine (HB2.out _).mono ?_; rintro e w2 ⟨rfl, rfl⟩))
  refine bodyPost_ret (results_row_row_tmp rfl _ _ _ 36 _ (0, 0) _ rfl (by exact hm.at_ 2 rfl) Tryz.underlying36 rfl (by kernel_rfl) _ 28 _ (0, 0) _ rfl (by exact hm.at_ 3 rfl) Tryz.underlying28 rfl (by kernel_rfl)) rfl ?_
  exact RWr.shut HH.out HS.out HE.out (by decide) (HC.out.resync hm).low
set_option maxRecDepth 100000 in
theorem runw_enc (w0 : World) (a : ChS) (s : Sec.S) (H : RSt w0 a s) (hc : s.cnt < 200) (cla ins p1 p2 : Int) (A : Option Addr) (dn c : Nat) (b : List UInt8) (h : Byt w0 w0.heap.size A dn c b) (hdn : dn ≤ 70000) (le : Int) (long : Bool) (hs : s.shut = false) (hp : Sec.covE s ⟨cla, ins, p1, p2, b, le, long⟩ = 0) (h1 : Sec.hb s.lvl 1 = true) (dd : List UInt8) (hq : b.drop (dn - 8) = Sec.cmac s cla ins p1 p2 le (b.take (dn - 8))) (h2 : Sec.hb s.lvl 2 = true) (hd : Sec.show? { s with cnt := s.cnt + 1 } false (b.take (dn - 8)) = some dd) :
    Calls Tryz.prog 20 #[.agg (rst a s), cmdV cla ins p1 p2 A dn c le long] w0 (RWr w0 a s A dn (Sec.unwrap s ⟨cla, ins, p1, p2, b, le, long⟩) (Sec.unwrapE s ⟨cla, ins, p1, p2, b, le, long⟩)) := by
  obtain ⟨hck, hok, h16, hmm⟩ := Sec.cov_facts hp
  obtain ⟨h4, h8⟩ := hmm h1
  dsimp only at hok h16 h4 h8
  have hcv := ref24_covered a s H.ok.lvl cla ins p1 p2 A dn c b h.1 (by omega) le long
  have hE := Sec.unwrapE_cov (x := ⟨cla, ins, p1, p2, b, le, long⟩) hs
  rw [rst_shut hs] at hcv ⊢
  unfold cch at hcv
  have HS := Lib.hid hs
  rw [hp] at hcv
  have HCV := Lib.hid hcv
  rw [hp, if_neg (fun e => e rfl)] at hE
  have HB1 := Lib.hid (ref24_has H.ok.lvl (.inl rfl) h1)
  have HB2 := Lib.hid (ref24_has H.ok.lvl (.inr (.inl rfl)) (v := Sec.hb s.lvl 2) rfl)
  have HX := Lib.hid h
  have hcn : 0 ≤ (s.cnt : Int) ∧ (s.cnt : Int) < 200 := by omega
  obtain ⟨hcn0, hcn1⟩ := hcn
  obtain ⟨kc, hkc⟩ : ∃ kc : Nat, kc = s.cnt + 1 := ⟨_, rfl⟩
  have HKC := Lib.hid hkc
  have i4 : (s.cnt : Int) + 1 = (kc : Int) := by omega
  have HH1 := Lib.hid h1
  rw [if_neg (by rw [h1]; decide)] at hE
  replace hE : Sec.unwrapE s ⟨cla, ins, p1, p2, b, le, long⟩ = if b.drop (b.length - 8) ≠ Sec.cmac s cla ins p1 p2 le (b.take (b.length - 8)) then 17 else if Sec.hb s.lvl 2 = true ∧ Sec.show? { s with cnt := s.cnt + 1 } false (b.take (b.length - 8)) = none then 4 else 0 := hE
  rw [h.1] at hE
  rw [if_neg (fun e => e hq), if_neg (by rw [hd]; rintro ⟨_, e⟩; cases e)] at hE
  have HE := Lib.hid hE
  obtain ⟨hle0, hle1⟩ := chk_le (show Apd.chk cla ins p1 p2 b.length le long = 0 from hck)
  obtain ⟨k, rfl⟩ : ∃ k, dn = k + 8 := ⟨dn - 8, by have := h.1; omega⟩
  obtain ⟨q, o, rfl, _⟩ := h.at_ (by omega)
  rw [Nat.add_sub_cancel] at hq
  have hcc := h.2.1
  have j3 : ¬ c = k := by omega
  have j4 : k ≤ c := by omega
  have j5 : k < c := by omega
  have j6 : (k : Int) ≤ (k : Int) + 8 := by omega
  have HCU := Lib.hid (fun u (hu : Below w0.heap.size w0 u) => byt_cut ((h.below hu).more hu.size))
  have HTL := Lib.hid (show (b.take k).length = k by rw [List.length_take, h.1]; omega)
  have HHD := Lib.hid (ref24_header cla ins p1 p2 (some ⟨q, o, none⟩) (k + 8) c le long ((k : Int) + 8) (by omega) (by omega) hle0 hle1)
  have hsm : Oct.same (Sec.cmac s cla ins p1 p2 le (b.take k)) (b.drop k) = true := (Oct.same_iff _ _).2 hq.symm
  have HSM := Lib.hid hsm
  have HQ := Lib.hid hq
  have HBL := Lib.hid h.1
  rw [Nat.add_sub_cancel] at hd
  have hsh : ∀ (A8 : Option Addr) (c8 : Nat) (u : World) (hu : Below w0.heap.size w0 u), Byt u u.heap.size A8 8 c8 (Sec.cmac s cla ins p1 p2 le (b.take k)) → Calls Tryz.prog 52 #[.agg (cch { a with C := A8, cc := c8 } s.lvl kc true false), .int .i64 0, .slice (some ⟨q, o, none⟩) k c] u (ShowR u (some dd)) := fun A8 c8 u hu hb8 => by
    have hR := H.below hu
    have h9 := ref24_show u { a with C := A8, cc := c8 } { s with cnt := s.cnt + 1, exp := true, chain := Sec.cmac s cla ins p1 p2 le (b.take k) } ⟨{ enc := H.ok.enc, mac := H.ok.mac, rmac := H.ok.rmac, dat := H.ok.dat, lvl := H.ok.lvl, chain := hb8.1 }, hR.enc, hR.mac, hR.rmac, hR.dat, hb8⟩ (by show s.cnt + 1 < 256; omega) (some ⟨q, o, none⟩) k c (b.take k) (byt_cut ((h.below hu).more hu.size)).1 (by omega) false
    rw [rst_shut (s := { s with cnt := s.cnt + 1, exp := true, chain := Sec.cmac s cla ins p1 p2 le (b.take k) }) hs] at h9
    rw [show Sec.show? { s with cnt := s.cnt + 1, exp := true, chain := Sec.cmac s cla ins p1 p2 le (b.take k) } false (b.take k) = some dd from hd] at h9
    rw [hkc]
    exact h9
  unfold cch at hsh
  have HSH := Lib.hid hsh
  have HCL := Lib.hid (fun u => ref04_Class cla u)
  rw [cls_sec hok h4 h16, hok] at HCL
  have hby := fun u => ref04_Byte (cla % 4) false false (cla / 128 == 1) u
  rw [(cby_sub hok h4 h16).1, (cby_sub hok h4 h16).2] at hby
  have HBY := Lib.hid hby
  unfold infoV at HCL HBY
  generalize (cla / 128 == 1) = o128 at *
  clear hby
  have HWD : Hid (Sec.unwrapD s ⟨cla, ins, p1, p2, b, le, long⟩ = dd) := Lib.hid (by
    unfold Sec.unwrapD
    show (if Sec.hb s.lvl 2 = true then (Sec.show? { s with cnt := s.cnt + 1 } false (b.take (b.length - 8))).getD [] else b.take (b.length - 8)) = _
    rw [h.1, Nat.add_sub_cancel, if_pos h2, hd]
    rfl)
  rw [h2] at HB2
  clear hs hp hE h h1 hkc hcv hck hok h16 h4 h8 hmm hsm hq hd h2 hsh
  have HH := Lib.hid H
  have HM := Lib.hid H.mac
  have HCH := Lib.hid H.chain
  have HC := Lib.hid (Scn.start w0)
  have hm := HC.out.rebase
  clear H hc
  unfold cch
  obtain ⟨E, ce, M, cm, R, cr, D, cd, C, cc⟩ := a
  dsimp only at HM HCH HSH ⊢
  unfold cmdV at HCV HHD ⊢
  go_enter Tryz.func20, Tryz.ntmps20
  go_wp2_with (first | go_skip | ((with_reducible show wpList _ _ _ _ _ (World.alloc _ _)); refine wpList_up hm ?_; clear hm; intro n w hn hn2 hk hm hd hd2 ho; (try rw [← hn]); replace hn := Nat.le_of_eq hn.symm) | ((first | ((with_reducible show wpList _ _ _ (Oper.mk _ (Op.box _ _) _ _ _ _ :: _) _ _); (refine bxA hm ?_; clear hm; intro n w hn hz hm ho; (try simp only [List.cons_append, List.nil_append] at hm))) | ((with_reducible show wpList _ _ _ (Oper.mk _ (Op.load _ _) _ _ _ _ :: _) _ _); first | (refine ldA hm ?_) | (refine laA hm ?_)) | ((with_reducible show wpList _ _ _ (Oper.mk _ (Op.store _ _ _) _ _ _ _ :: _) _ _); (refine stA hm ?_; clear hm; intro w hz hm ho)) | ((with_reducible show wpList _ _ _ (Oper.mk _ (Op.alloc _) _ _ _ _ :: _) _ _); (refine alA hm ?_; clear hm; intro n w hn hz hm ho; (try simp only [List.cons_append, List.nil_append] at hm)))); try simp only [Act.put, sxQ]) | (go_at_call 51; refine (HCV.out _).mono ?_; rintro e w2 ⟨rfl, hbl⟩; replace hm := hm.below hbl) | ((with_reducible show Calls _ 43 #[_, Value.int _ 1] _ _); refine (HB1.out _).mono ?_; rintro e w2 ⟨rfl, rfl⟩) | ((with_reducible show Calls _ 43 #[_, Value.int _ 2] _ _); refine (HB2.out _).mono ?_; rintro e w2 ⟨rfl, rfl⟩))
  refine wp_region_noPanic ?_
  refine wp_region_held_drew (S := KnS _ _) (by kernel_rfl) (KnS.of hm.drew (Rngs.nil _)) (fun hHeld => ?_)
  refine wpAnyH_fresh (by repeat (first | apply Fresh.a | apply Fresh.b)) ?_
  replace hm := hm.drew
  iterate 9 (first | (refine takeN 0 hHeld ?_) | (refine takeY 0 ?_ hHeld ?_ ?_; rotate_left 1; (first | (intro w9 h9; (with_reducible show (execOp _ (Oper.mk _ (Op.load _ _) _ _ _ _)).run _ _ = _); first | exact h9.ldA | exact h9.lcA | exact h9.laA | exact h9.lrA) | focus (intro w9 hSw; go_simp; (try (with_reducible rfl)); done))); try simp only [Act.put, sxQ])
  iterate 4 (first | (refine takeN 10 hHeld ?_) | (refine takeY 10 ?_ hHeld ?_ ?_; rotate_left 1; (first | (intro w9 h9; (with_reducible show (execOp _ (Oper.mk _ (Op.load _ _) _ _ _ _)).run _ _ = _); first | exact h9.ldA | exact h9.lcA | exact h9.laA | exact h9.lrA) | focus (intro w9 hSw; go_simp; (try (with_reducible rfl)); done))); try simp only [Act.put, sxQ])
  refine wpAnyH_ready (rs := [9]) (by kernel_rfl) (by simp) ?_
  refine AllReadyH.cons2 (by simp only [sxN]; first | done | exact rfl) (fun K hK => ?_)
  rw [if_pos (by rfl)]
  go_simp
  refine (HHD.out _).mono ?_
  rintro e w5 ⟨A5, c5, rfl, hown, hbl⟩
  replace hm := hm.got hbl hown
  clear hown
  go_simp
  refine hK.out _ _ (KnS.of hm (Rngs.nil _)) (fun hHeld => ?_)
  clear hK K
  try simp only [Act.put, sxQ]
  refine wpAnyH_ready (rs := [14]) (by kernel_rfl) (by simp) ?_
  refine AllReadyH.cons2 (by simp only [sxN]; first | done | exact rfl) (fun K hK => ?_)
  rw [if_pos (by rfl)]
  go_simp
  refine K_up hm ?_
  intro n6 w6 hn hn6s hn6 hm1 hn6d hn6d2 hb6
  first | rw [← hn] | rw [← (show n6 = w5.heap.size from hn)]
  clear hn hm
  have hm := hm1.row hn6 hn6s hn6d hn6d2 1 2 [.slice A5 10 c5, .slice (some ⟨q, o, none⟩) k c] rfl rfl (by unfold maxLen; omega)
  clear hm1
  refine hK.out _ _ (KnS.of hm (Rngs.nil _)) (fun hHeld => ?_)
  clear hK K
  try simp only [Act.put, sxQ]
  refine wpAnyH_ready (rs := [15]) (by kernel_rfl) (by simp) ?_
  refine AllReadyH.cons2 (by simp only [sxN]; first | done | exact rfl) (fun K hK => ?_)
  rw [if_pos (by rfl)]
  go_simp
  refine (rjoin_list n6 [⟨A5, 10, c5, Sec.hdr cla ins p1 p2 ((k : Int) + 8) le⟩, ⟨some ⟨q, o, none⟩, k, c, b.take k⟩] 2 (k + 10) rfl _ (by exact (hm.sl_ 1 rfl).row) (by
    intro v hv
    simp only [List.mem_cons, List.not_mem_nil, or_false] at hv
    rcases hv with rfl | rfl
    · exact (HC.out.resync hm).byt 0 rfl
    · exact (HCU.out _ (HC.out.resync hm).low).1) (by simp [joined, Sec.hdr, Sec.three, HTL.out]) (by omega) (by omega)).mono ?_
  rintro e w7 ⟨A7, c7, rfl, hown, hbl⟩
  replace hm := hm.got hbl hown
  clear hown
  go_simp
  refine hK.out _ _ (KnS.of hm (Rngs.nil _)) (fun hHeld => ?_)
  clear hK K
  try simp only [Act.put, sxQ]
  refine wpAnyH_ready (rs := [16]) (by kernel_rfl) (by simp) ?_
  refine AllReadyH.cons2 (by simp only [sxN]; first | done | exact rfl) (fun K hK => ?_)
  rw [if_pos (by rfl)]
  go_simp
  refine (rmac_call M C A7 (k + 10) cm cc c7 s.mac s.chain (joined [⟨A5, 10, c5, Sec.hdr cla ins p1 p2 ((k : Int) + 8) le⟩, ⟨some ⟨q, o, none⟩, k, c, b.take k⟩]) _ ((HC.out.resync hm).old HM.out) ((HC.out.resync hm).old HCH.out) ((HC.out.resync hm).byt 2 rfl) (by omega)).mono ?_
  rintro e w8 ⟨A8, c8, rfl, hby, hnew, hbl8⟩
  rw [show Mod.mcB s.mac s.chain (joined [⟨A5, 10, c5, Sec.hdr cla ins p1 p2 ((k : Int) + 8) le⟩, ⟨some ⟨q, o, none⟩, k, c, b.take k⟩]) = Sec.cmac s cla ins p1 p2 le (b.take k) by simp only [joined, Sec.cmac, Sec.hdr, HTL.out]; simp] at hby
  have HN8 := Lib.hid (fun x (e : A8 = some x) => Nat.le_trans (HC.out.resync hm).size (hnew x e))
  have hc2 := (HC.out.resync hm).fresh hbl8 (bytSup hby) (fun q hq => by obtain ⟨x, e, rfl⟩ := blks_lone hq; exact .inl (hnew x e))
  clear hby hnew
  clear HC hm
  simp only [List.nil_append, List.cons_append, List.set_cons_zero, List.set_cons_succ] at hc2
  have HC := Lib.hid hc2
  clear hc2
  have hm := HC.out.rebase
  go_simp
  refine hK.out _ _ (KnS.of hm (Rngs.nil _)) (fun hHeld => ?_)
  clear hK K
  try simp only [Act.put, sxQ]
  iterate 5 (first | (refine takeN 17 hHeld ?_) | (refine takeY 17 ?_ hHeld ?_ ?_; rotate_left 1; (first | (intro w9 h9; (with_reducible show (execOp _ (Oper.mk _ (Op.load _ _) _ _ _ _)).run _ _ = _); first | exact h9.ldA | exact h9.lcA | exact h9.laA | exact h9.lrA) | focus (intro w9 hSw; go_simp; (try (with_reducible rfl)); done))); try simp only [Act.put, sxQ])
  refine wpAnyH_done (by kernel_rfl) ?_ _
  refine NoPanic.normal ?_
  go_wp2_with (first | go_skip | ((with_reducible show wpList _ _ _ _ _ (World.alloc _ _)); refine wpList_up hm ?_; clear hm; intro n w hn hn2 hk hm hd hd2 ho; (try rw [← hn]); replace hn := Nat.le_of_eq hn.symm) | ((first | ((with_reducible show wpList _ _ _ (Oper.mk _ (Op.box _ _) _ _ _ _ :: _) _ _); (refine bxA hm ?_; clear hm; intro n w hn hz hm ho; (try simp only [List.cons_append, List.nil_append] at hm))) | ((with_reducible show wpList _ _ _ (Oper.mk _ (Op.load _ _) _ _ _ _ :: _) _ _); first | (refine ldA hm ?_) | (refine laA hm ?_)) | ((with_reducible show wpList _ _ _ (Oper.mk _ (Op.store _ _ _) _ _ _ _ :: _) _ _); (refine stA hm ?_; clear hm; intro w hz hm ho)) | ((with_reducible show wpList _ _ _ (Oper.mk _ (Op.alloc _) _ _ _ _ :: _) _ _); (refine alA hm ?_; clear hm; intro n w hn hz hm ho; (try simp only [List.cons_append, List.nil_append] at hm)))); try simp only [Act.put, sxQ]))
  go_at_call 27
  refine (ref01_Same A8 (some ⟨q, o + k, none⟩) 8 8 c8 (c - k) _ (b.drop k) _ ((HC.out.resync hm).val 0 rfl) (HCU.out _ (HC.out.resync hm).low).2 (by omega) (by omega)).mono ?_
  rw [HSM.out]
  rintro e w9 ⟨rfl, k9, hk9⟩
  replace hm := hm.drewN k9
  rw [← hk9] at hm
  clear hk9
  go_wp2_with (first | go_skip | ((with_reducible show wpList _ _ _ _ _ (World.alloc _ _)); refine wpList_up hm ?_; clear hm; intro n w hn hn2 hk hm hd hd2 ho; (try rw [← hn]); replace hn := Nat.le_of_eq hn.symm) | ((first | ((with_reducible show wpList _ _ _ (Oper.mk _ (Op.box _ _) _ _ _ _ :: _) _ _); (refine bxA hm ?_; clear hm; intro n w hn hz hm ho; (try simp only [List.cons_append, List.nil_append] at hm))) | ((with_reducible show wpList _ _ _ (Oper.mk _ (Op.load _ _) _ _ _ _ :: _) _ _); first | (refine ldA hm ?_) | (refine laA hm ?_)) | ((with_reducible show wpList _ _ _ (Oper.mk _ (Op.store _ _ _) _ _ _ _ :: _) _ _); (refine stA hm ?_; clear hm; intro w hz hm ho)) | ((with_reducible show wpList _ _ _ (Oper.mk _ (Op.alloc _) _ _ _ _ :: _) _ _); (refine alA hm ?_; clear hm; intro n w hn hz hm ho; (try simp only [List.cons_append, List.nil_append] at hm)))); try simp only [Act.put, sxQ]) | ((with_reducible show Calls _ 43 #[_, Value.int _ 1] _ _); refine (HB1.out _).mono ?_; rintro e w2 ⟨rfl, rfl⟩) | ((with_reducible show Calls _ 43 #[_, Value.int _ 2] _ _); refine (HB2.out _).mono ?_; rintro e w2 ⟨rfl, rfl⟩) | (go_at_call 45; refine (HCL.out _).mono ?_; rintro e w2 ⟨rfl, hbl⟩; replace hm := hm.below hbl) | (go_at_call 46; refine (HBY.out _).mono ?_; rintro e w2 ⟨rfl, hbl⟩; replace hm := hm.below hbl))
  go_at_call 52
  refine (HSH.out A8 c8 _ (HC.out.resync hm).low ((HC.out.resync hm).val 0 rfl)).mono ?_
  rintro e w2 ⟨hbl, (⟨e9, _⟩ | ⟨d9, A9, n9, c9, e9, hl9, rfl, hown⟩)⟩
  · cases e9
  injection e9 with e9
  subst e9
  have HL9 := Lib.hid hl9
  replace hm := hm.got hbl hown
  clear hown hl9
  go_wp2_with (first | go_skip | ((with_reducible show wpList _ _ _ _ _ (World.alloc _ _)); refine wpList_up hm ?_; clear hm; intro n w hn hn2 hk hm hd hd2 ho; (try rw [← hn]); replace hn := Nat.le_of_eq hn.symm) | ((first | ((with_reducible show wpList _ _ _ (Oper.mk _ (Op.box _ _) _ _ _ _ :: _) _ _); (refine bxA hm ?_; clear hm; intro n w hn hz hm ho; (try simp only [List.cons_append, List.nil_append] at hm))) | ((with_reducible show wpList _ _ _ (Oper.mk _ (Op.load _ _) _ _ _ _ :: _) _ _); first | (refine ldA hm ?_) | (refine laA hm ?_)) | ((with_reducible show wpList _ _ _ (Oper.mk _ (Op.store _ _ _) _ _ _ _ :: _) _ _); (refine stA hm ?_; clear hm; intro w hz hm ho)) | ((with_reducible show wpList _ _ _ (Oper.mk _ (Op.alloc _) _ _ _ _ :: _) _ _); (refine alA hm ?_; clear hm; intro n w hn hz hm ho; (try simp only [List.cons_append, List.nil_append] at hm)))); try simp only [Act.put, sxQ]) | ((with_reducible show Calls _ 43 #[_, Value.int _ 1] _ _); refine (HB1.out _).mono ?_; rintro e w2 ⟨rfl, rfl⟩) | ((with_reducible show Calls _ 43 #[_, Value.int _ 2] _ _); refine (HB2.out _).mono ?_; rintro e w2 ⟨rfl, rfl⟩) | (go_at_call 45; refine (HCL.out _).mono ?_; rintro e w2 ⟨rfl, hbl⟩; replace hm := hm.below hbl) | (go_at_call 46; refine (HBY.out _).mono ?_; rintro e w2 ⟨rfl, hbl⟩; replace hm := hm.below hbl))
  have hw9 := (hm.drew.wo 3).wo 2
  simp only [List.eraseIdx_cons_zero, List.eraseIdx_cons_succ] at hw9
  refine wp_region_noPanic ?_
  refine wp_region_held_drew (S := MemS _ _ _ _) (by kernel_rfl) (MemS.of hw9) (fun hHeld => ?_)
  refine wpAnyH_fresh (by repeat (first | apply Fresh.a | apply Fresh.b)) ?_
  clear hw9
  replace hm := hm.drew
  iterate 2 (first | (refine takeN 0 hHeld ?_) | (refine takeY 0 ?_ hHeld ?_ ?_; rotate_left 1; (first | (intro w9 h9; (with_reducible show (execOp _ (Oper.mk _ (Op.load _ _) _ _ _ _)).run _ _ = _); first | exact h9.ldA | exact h9.laA) | focus (intro w9 hSw; go_simp; (try (with_reducible rfl)); done))); try simp only [Act.put, sxQ])
  refine wpAnyH_ready (rs := [2]) (by kernel_rfl) (by simp) ?_
  refine AllReadyH.cons2 (by simp only [sxN]; first | done | exact rfl) (fun K hK => ?_)
  refine stB hm ?_
  clear hm; intro w hz hm ho
  refine hK.out _ _ (MemS.of ((hm.wo 3).wo 2)) (fun hHeld => ?_)
  clear hK K
  try simp only [Act.put, sxQ]
  refine wpAnyH_ready (rs := [3]) (by kernel_rfl) (by simp) ?_
  refine AllReadyH.cons2 (by simp only [sxN]; first | done | exact rfl) (fun K hK => ?_)
  refine stB hm ?_
  clear hm; intro w hz hm ho
  refine hK.out _ _ (MemS.of ((hm.wo 3).wo 2)) (fun hHeld => ?_)
  clear hK K
  try simp only [Act.put, sxQ]
  iterate 1 (first | (refine takeN 4 hHeld ?_) | (refine takeY 4 ?_ hHeld ?_ ?_; rotate_left 1; (first | (intro w9 h9; (with_reducible show (execOp _ (Oper.mk _ (Op.load _ _) _ _ _ _)).run _ _ = _); first | exact h9.ldA) | focus (intro w9 hSw; go_simp; (try (with_reducible rfl)); done))); try simp only [Act.put, sxQ])
  refine wpAnyH_done (by kernel_rfl) ?_ _
  refine NoPanic.normal ?_
  go_wp2_with fail
  refine bodyPost_ret (results_row_row_tmp rfl _ _ _ 36 _ (0, 0) _ rfl (by exact hm.at_ 2 rfl) Tryz.underlying36 rfl (by kernel_rfl) _ 28 _ (0, 0) _ rfl (by exact hm.at_ 3 rfl) Tryz.underlying28 rfl (by kernel_rfl)) rfl ?_
  have hk := HKC.out
  subst hk
  have ho9 := (HC.out.resync hm).cal.mem.own_ 3 rfl
  have hle9 := ho9.le
  exact RWr.umac HH.out HS.out HE.out HH1.out HWD.out (by show b.drop (b.length - 8) = _; rw [HBL.out, Nat.add_sub_cancel]; exact HQ.out) HL9.out ((HC.out.resync hm).byt 3 rfl) (fun F hF hn x e => .inr (ho9.lt x.block (by unfold ownAt; rw [if_neg (by dsimp only at hle9 ⊢; omega), e]; rfl)).1) ((HC.out.resync hm).val 0 rfl) HN8.out (HC.out.resync hm).low
set_option maxRecDepth 100000 in
theorem ref24_Unwrap (w0 : World) (a : ChS) (s : Sec.S) (H : RSt w0 a s) (hc : s.cnt < 200) (cla ins p1 p2 : Int) (A : Option Addr) (dn c : Nat) (b : List UInt8) (h : Byt w0 w0.heap.size A dn c b) (hdn : dn ≤ 70000) (le : Int) (long : Bool)  :
    Calls Tryz.prog 20 #[.agg (rst a s), cmdV cla ins p1 p2 A dn c le long] w0 (RWr w0 a s A dn (Sec.unwrap s ⟨cla, ins, p1, p2, b, le, long⟩) (Sec.unwrapE s ⟨cla, ins, p1, p2, b, le, long⟩)) := by
  cases hs : s.shut with
  | true => exact runw_shut w0 a s H hc cla ins p1 p2 A dn c b h hdn le long hs
  | false =>
  by_cases hp : Sec.covE s ⟨cla, ins, p1, p2, b, le, long⟩ = 0
  rotate_left 1
  · exact runw_cov w0 a s H hc cla ins p1 p2 A dn c b h hdn le long hs hp
  cases h1 : Sec.hb s.lvl 1 with
  | false => exact runw_nomac w0 a s H hc cla ins p1 p2 A dn c b h hdn le long hs hp h1
  | true =>
  by_cases hq : b.drop (dn - 8) = Sec.cmac s cla ins p1 p2 le (b.take (dn - 8))
  rotate_left 1
  · exact runw_wrong w0 a s H hc cla ins p1 p2 A dn c b h hdn le long hs hp h1 hq
  cases h2 : Sec.hb s.lvl 2 with
  | false => exact runw_mac w0 a s H hc cla ins p1 p2 A dn c b h hdn le long hs hp h1 hq h2
  | true =>
  cases hd : Sec.show? { s with cnt := s.cnt + 1 } false (b.take (dn - 8)) with
  | none => exact runw_bad w0 a s H hc cla ins p1 p2 A dn c b h hdn le long hs hp h1 hq h2 hd
  | some dd => exact runw_enc w0 a s H hc cla ins p1 p2 A dn c b h hdn le long hs hp h1 dd hq h2 hd
end Go.Proofs.YtibaibdgpnkdnaaGreatDoor
