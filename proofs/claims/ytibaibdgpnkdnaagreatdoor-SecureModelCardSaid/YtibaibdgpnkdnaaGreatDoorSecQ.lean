/-
  The walk of Wrap behind the tests of the command.
-/
import Derived.Test.YtibaibdgpnkdnaaGreatDoorZ1
import Derived.Test.YtibaibdgpnkdnaaGreatDoorSecP
import Derived.Test.YtibaibdgpnkdnaaGreatDoorSecL
namespace Go.Proofs.YtibaibdgpnkdnaaGreatDoor
set_option maxRecDepth 100000
set_option linter.unusedSimpArgs false
set_option linter.unusedVariables false
open Go.RowKit
set_option maxHeartbeats 8000000

theorem has_cells {g : Nat} {lvl : Int} (hl : Sec.lvOk lvl = true) (bit : Int) (hb : bit = 1 ∨ bit = 2 ∨ bit = 16 ∨ bit = 32) {v : Bool} (hv : Sec.hb lvl bit = v) (u : World) (v0 v1 v2 v3 v5 v6 v7 v8 : Value) (H : Blk u g 50 #[v0, v1, v2, v3, .int .i64 lvl, v5, v6, v7, v8]) :
    Calls Tryz.prog 33 #[.pointer (some ⟨g, 0, none⟩), .int .i64 bit] u fun e w' => e = .returned (.bool v) ∧ w' = u := by
  subst hv
  have hand := and_hb hl hb
  have hm : Mem (fun q => q = g) u u [⟨g, _, _⟩] [] := Mem.one H rfl
  rw [← hand]
  clear hand hl hb
  go_enter Tryz.func33, Tryz.ntmps33
  go_wp2_with (first | go_skip | ((with_reducible show wpList _ _ _ _ _ (World.alloc _ _)); refine wpList_up hm ?_; clear hm; intro n w hn hn2 hk hm hd hd2 ho; (try rw [← hn]); replace hn := Nat.le_of_eq hn.symm) | ((first | ((with_reducible show wpList _ _ _ (Oper.mk _ (Op.box _ _) _ _ _ _ :: _) _ _); (refine bxA hm ?_; clear hm; intro n w hn hz hm ho; (try simp only [List.cons_append, List.nil_append] at hm))) | ((with_reducible show wpList _ _ _ (Oper.mk _ (Op.load _ _) _ _ _ _ :: _) _ _); first | (refine ldA hm ?_) | (refine laA hm ?_)) | ((with_reducible show wpList _ _ _ (Oper.mk _ (Op.store _ _ _) _ _ _ _ :: _) _ _); (refine stA hm ?_; clear hm; intro w hz hm ho)) | ((with_reducible show wpList _ _ _ (Oper.mk _ (Op.alloc _) _ _ _ _ :: _) _ _); (refine alA hm ?_; clear hm; intro n w hn hz hm ho; (try simp only [List.cons_append, List.nil_append] at hm)))); try simp only [Act.put, sxQ]))
  go_ret
  exact ⟨rfl, rfl⟩
theorem cby_add {c : Int} (h : Apd.cok c = true) (h4 : ¬ c / 4 % 2 = 1) (h16 : ¬ c / 16 % 2 = 1) : Apd.cby (c % 4) true false (c / 128 == 1) = c + 4 ∧ Apd.cbe (c % 4) = 0 := by
  have hr := of_decide_eq_true h
  have hn : ¬ (c % 4 < 0 ∨ 4 ≤ c % 4) := by omega
  unfold Apd.cby Apd.cbe
  refine ⟨?_, if_neg hn⟩
  rw [if_neg hn]
  by_cases h8 : c / 128 = 1
  · rw [h8]; simp; omega
  · rw [beq_eq_false_iff_ne.2 h8]; simp; omega
theorem chk_le {cla ins p1 p2 le : Int} {n : Nat} {lg : Bool} (h : Apd.chk cla ins p1 p2 n le lg = 0) : 0 ≤ le ∧ le ≤ 65536 := by
  unfold Apd.chk at h
  split at h
  · cases h
  split at h
  · cases h
  split at h
  · cases h
  split at h
  · cases h
  rename_i h5
  unfold Apd.maxL at h5
  cases lg <;> simp at h5 <;> omega
theorem cls_plain {c : Int} (hk : Apd.cok c = true) (h4 : ¬ c / 4 % 2 = 1) (h16 : ¬ c / 16 % 2 = 1) : Apd.clsV c = infoV (c % 4) false false (c / 128 == 1) := by
  unfold Apd.clsV; rw [hk, beq_eq_false_iff_ne.2 h4, beq_eq_false_iff_ne.2 h16]; rfl

theorem S_eq {s : Sec.S} {cnt : Nat} {exp : Bool} {ch : List UInt8} (hs : s.shut = false) : ({ s with cnt := cnt, exp := exp, shut := false, chain := ch } : Sec.S) = { s with cnt := cnt, exp := exp, chain := ch } := by
  obtain ⟨_, _, _, _, _, _, _, _, _⟩ := s
  simp only at hs
  subst hs
  rfl
theorem WrRes.mac {w w' : World} {g : Nat} {F F' : Nat → Prop} {s : Sec.S} {x : Apd.Cmd} (hw : Sec.wrapE s x = 0) (h1 : Sec.hb s.lvl 1 = true) {D M : List UInt8} (hD : Sec.wrapD s x = D) (hM : Sec.cmac s (x.cla + 4) x.ins x.p1 x.p2 x.le D = M) {m c : Nat} (hm : (D ++ M).length = m) {A : Option Addr}
    (ho : Own w' w.heap.size 5 1 A m c (bcells (D ++ M))) (hch : ChAt' w' g F' { s with cnt := s.cnt + 1, exp := true, chain := M }) (hon : Only F w w') (hF : ∀ q, F' q → F q ∨ w.heap.size ≤ q) (hd : ∀ q, F' q → ownAt A c ≠ some q) {lg : Bool} (hlg : lg = (x.long || decide (255 < m))) :
    WrRes w g F s x (.returned (.tuple #[cmdV (x.cla + 4) x.ins x.p1 x.p2 A m c x.le lg, .int .i64 0])) w' := by
  subst hD; subst hM; subst hm; subst hlg
  have e := Sec.wrap_mac hw h1
  unfold WrRes
  rw [e, hw]
  exact ⟨A, c, F', rfl, ho, hch, hon, hF, hd⟩
theorem WrRes.no {w w' : World} {g : Nat} {F : Nat → Prop} {s : Sec.S} {x : Apd.Cmd} (hw : Sec.wrapE s x = 0) (h1 : Sec.hb s.lvl 1 = false) {m c : Nat} (hm : x.d.length = m) {A : Option Addr}
    (ho : Own w' w.heap.size 5 1 A m c (bcells x.d)) (hch : ChAt' w' g F { s with cnt := s.cnt + 1, exp := true }) (hon : Only F w w') (hlt : ∀ q, F q → q < w.heap.size) :
    WrRes w g F s x (.returned (.tuple #[cmdV x.cla x.ins x.p1 x.p2 A m c x.le x.long, .int .i64 0])) w' := by
  subst hm
  have e := Sec.wrap_no hw h1
  unfold WrRes
  rw [e, hw]
  exact ⟨A, c, F, rfl, ho, hch, hon, fun q hq => .inl hq, fun q hq e => by have := hlt q hq; have := (ho.lt q e).1; omega⟩
/-- Behind a slice that becomes part of the object. -/
theorem far_of {w0 w : World} {L : List Ent} {O : List Osl} {g : Nat} {A : Option Addr} {n c : Nat} {t : TypeId} {cs : Array Value} {bs : List UInt8} {t2 : TypeId} (hm : Mem (fun q => q = g) w0 w L O) (j k : Nat) (hj : L[j]? = some ⟨g, t2, cs⟩) (hk : O[k]? = some ⟨t, 1, A, n, c, bcells bs⟩) (hn : 0 < n) :
    ∀ a, A = some a → a.block ≠ g ∧ a.block < w.heap.size ∧ w0.heap.size ≤ a.block := fun a e => by
  have hmem := List.mem_of_getElem? hk
  have hle := (hm.sl_ k hk).le
  have hq : ownAt A c = some a.block := by unfold ownAt; rw [if_neg (by have hle : n ≤ c := hle; omega), e]; rfl
  have h1 := hm.slL _ hmem _ (List.mem_of_getElem? hj)
  have h2 := hm.slt hmem hq
  refine ⟨fun e2 => h1 (by rw [← e2]; exact hq), h2, ?_⟩
  rcases hm.slR _ hmem _ hq with h3 | h3
  · exact absurd h3 (fun e2 => h1 (by rw [← e2]; exact hq))
  · exact h3
set_option maxRecDepth 100000 in
theorem wrap_long (w0 : World) (g : Nat) (F : Nat → Prop) (s : Sec.S) (H : ChAt' w0 g F s) (hcnt : s.cnt < 1000000) (cla ins p1 p2 : Int) (A : Option Addr) (dn c : Nat) (b : List UInt8) (h : Byt w0 w0.heap.size A dn c b) (hdn : dn ≤ 70000) (le : Int) (long : Bool) (hs : s.shut = false) (hc : Apd.chk cla ins p1 p2 dn le long = 0)
    (hk : Apd.cok cla = true) (h4 : ¬ cla / 4 % 2 = 1) (h16 : ¬ cla / 16 % 2 = 1) (h1 : Sec.hb s.lvl 1 = true) (hsz : 65535 < Sec.sz dn (Sec.hb s.lvl 2) + 8) :
    Calls Tryz.prog 14 #[.pointer (some ⟨g, 0, none⟩), cmdV cla ins p1 p2 A dn c le long] w0 (WrRes w0 g F s ⟨cla, ins, p1, p2, b, le, long⟩) := by
  have hbl := h.1
  subst hbl
  have hE : Sec.wrapE s ⟨cla, ins, p1, p2, b, le, long⟩ = 3 := by
    unfold Sec.wrapE
    rw [if_neg (by rw [hs]; decide), if_neg (fun e => e (show Sec.chkC ⟨cla, ins, p1, p2, b, le, long⟩ = 0 from hc)), if_neg (by
      rintro (e | e | e)
      · have e : Apd.cok cla = false := e
        rw [hk] at e; cases e
      · exact h4 e
      · exact h16 e), if_pos (by rw [h1, if_pos rfl]; exact hsz)]
  have HE := Lib.hid hE
  clear hE
  have hck := fun u => apdu_Check cla ins p1 p2 A b.length c le long u
  rw [hc] at hck
  have HCK := Lib.hid hck
  have hcl := fun u => apdu_Class cla u
  rw [cls_plain hk h4 h16, hk] at hcl
  have HCL := Lib.hid hcl
  have hzc := fun u => secure_size b.length (Sec.hb s.lvl 2) (by omega) u
  have HZC := Lib.hid hzc
  have HH := Lib.hid H
  have HB := Lib.hid h
  obtain ⟨a, H⟩ := H
  have HB1 := Lib.hid (has_cells (g := g) H.ok.lvl 1 (.inl rfl) h1)
  have HB2 := Lib.hid (has_cells (g := g) H.ok.lvl 2 (.inr (.inl rfl)) (v := Sec.hb s.lvl 2) rfl)
  clear hck hc hk h4 h16 h1 hcl hzc h
  obtain ⟨AC, hC⟩ := H.chainAt
  have hm := H.mem
  have hK := H.blk
  rw [hs] at hm hK
  have HK := Lib.hid hK
  have HA := Lib.hid H
  have HS := Lib.hid hs
  clear H hs hK
  obtain ⟨E, ce, M, cm, R, cr, D, cd, C, cc⟩ := a
  have hC : C = some AC := hC
  subst hC
  simp only [cch] at hm HK
  unfold cmdV
  unfold infoV at HCL
  clear hcnt
  generalize Sec.hb s.lvl 2 = b2 at *
  generalize hz : Sec.sz b.length b2 + 8 = z at *
  clear hz
  have i3 : decide ((65535 : Int) < (z : Int)) = true := decide_eq_true (by omega)
  generalize (z : Int) = zi at *
  clear hsz
  generalize (cla / 128 == 1) = o128 at *
  go_enter Tryz.func14, Tryz.ntmps14
  go_wp2_with (first | go_skip | ((with_reducible show wpList _ _ _ _ _ (World.alloc _ _)); refine wpList_up hm ?_; clear hm; intro n w hn hn2 hk hm hd hd2 ho; (try rw [← hn]); replace hn := Nat.le_of_eq hn.symm) | ((first | ((with_reducible show wpList _ _ _ (Oper.mk _ (Op.box _ _) _ _ _ _ :: _) _ _); (refine bxA hm ?_; clear hm; intro n w hn hz hm ho; (try simp only [List.cons_append, List.nil_append] at hm))) | ((with_reducible show wpList _ _ _ (Oper.mk _ (Op.load _ _) _ _ _ _ :: _) _ _); first | (refine ldA hm ?_) | (refine laA hm ?_)) | ((with_reducible show wpList _ _ _ (Oper.mk _ (Op.store _ _ _) _ _ _ _ :: _) _ _); (refine stA hm ?_; clear hm; intro w hz hm ho)) | ((with_reducible show wpList _ _ _ (Oper.mk _ (Op.alloc _) _ _ _ _ :: _) _ _); (refine alA hm ?_; clear hm; intro n w hn hz hm ho; (try simp only [List.cons_append, List.nil_append] at hm)))); try simp only [Act.put, sxQ]) | (go_at_call 30; refine (ch_made (by exact hm.at_ 0 rfl)).mono ?_; rintro e w2 ⟨rfl, rfl⟩) | (go_at_call 31; refine (HCK.out _).mono ?_; rintro e w2 ⟨rfl, hbl⟩; replace hm := hm.below hbl) | (go_at_call 32; refine (HCL.out _).mono ?_; rintro e w2 ⟨rfl, hbl⟩; replace hm := hm.below hbl))
  refine wp_region_noPanic ?_
  refine wp_region_held_drew (S := MemS _ _ _ _) (by kernel_rfl) (MemS.of hm.drew) (fun hHeld => ?_)
  refine wpAnyH_fresh (by repeat (first | apply Fresh.a | apply Fresh.b)) ?_
  replace hm := hm.drew
  iterate 1 (first | (refine takeN 0 hHeld ?_) | (refine takeY 0 ?_ hHeld ?_ ?_; rotate_left 1; (first | (intro w9 h9; (with_reducible show (execOp _ (Oper.mk _ (Op.load _ _) _ _ _ _)).run _ _ = _); first | exact h9.ldA) | focus (intro w9 hSw; go_simp; (try (with_reducible rfl)); done))); try simp only [Act.put, sxQ])
  refine wpAnyH_ready (rs := [1]) (by kernel_rfl) (by simp) ?_
  refine AllReadyH.cons2 (by simp only [sxN]; first | done | exact rfl) (fun K hK => ?_)
  rw [if_pos (by rfl)]
  go_simp
  refine (HB1.out _ _ _ _ _ _ _ _ _ (by exact hm.at_ 0 rfl)).mono ?_
  rintro e w9 ⟨rfl, rfl⟩
  go_simp
  refine hK.out _ _ (MemS.of hm) (fun hHeld => ?_)
  clear hK K
  try simp only [Act.put, sxQ]
  iterate 5 (first | (refine takeN 2 hHeld ?_) | (refine takeY 2 ?_ hHeld ?_ ?_; rotate_left 1; (first | (intro w9 h9; (with_reducible show (execOp _ (Oper.mk _ (Op.load _ _) _ _ _ _)).run _ _ = _); first | exact h9.ldA) | focus (intro w9 hSw; go_simp; (try (with_reducible rfl)); done))); try simp only [Act.put, sxQ])
  refine wpAnyH_ready (rs := [7]) (by kernel_rfl) (by simp) ?_
  refine AllReadyH.cons2 (by simp only [sxN]; first | done | exact rfl) (fun K hK => ?_)
  rw [if_pos (by rfl)]
  go_simp
  refine (HB2.out _ _ _ _ _ _ _ _ _ (by exact hm.at_ 0 rfl)).mono ?_
  rintro e w9 ⟨rfl, rfl⟩
  go_simp
  refine hK.out _ _ (MemS.of hm) (fun hHeld => ?_)
  clear hK K
  try simp only [Act.put, sxQ]
  refine wpAnyH_ready (rs := [8]) (by kernel_rfl) (by simp) ?_
  refine AllReadyH.cons2 (by simp only [sxN]; first | done | exact rfl) (fun K hK => ?_)
  rw [if_pos (by rfl)]
  go_simp
  refine (HZC.out _).mono ?_
  rintro e w9 ⟨rfl, rfl⟩
  go_simp
  refine hK.out _ _ (MemS.of hm) (fun hHeld => ?_)
  clear hK K
  try simp only [Act.put, sxQ]
  iterate 3 (first | (refine takeN 9 hHeld ?_) | (refine takeY 9 ?_ hHeld ?_ ?_; rotate_left 1; (first | (intro w9 h9; (with_reducible show (execOp _ (Oper.mk _ (Op.load _ _) _ _ _ _)).run _ _ = _); first | exact h9.ldA) | focus (intro w9 hSw; go_simp; (try (with_reducible rfl)); done))); try simp only [Act.put, sxQ])
  refine wpAnyH_done (by kernel_rfl) ?_ _
  refine NoPanic.normal ?_
  go_wp2_with (first | go_skip | ((with_reducible show wpList _ _ _ _ _ (World.alloc _ _)); refine wpList_up hm ?_; clear hm; intro n w hn hn2 hk hm hd hd2 ho; (try rw [← hn]); replace hn := Nat.le_of_eq hn.symm) | ((first | ((with_reducible show wpList _ _ _ (Oper.mk _ (Op.box _ _) _ _ _ _ :: _) _ _); (refine bxA hm ?_; clear hm; intro n w hn hz hm ho; (try simp only [List.cons_append, List.nil_append] at hm))) | ((with_reducible show wpList _ _ _ (Oper.mk _ (Op.load _ _) _ _ _ _ :: _) _ _); first | (refine ldA hm ?_) | (refine laA hm ?_)) | ((with_reducible show wpList _ _ _ (Oper.mk _ (Op.store _ _ _) _ _ _ _ :: _) _ _); (refine stA hm ?_; clear hm; intro w hz hm ho)) | ((with_reducible show wpList _ _ _ (Oper.mk _ (Op.alloc _) _ _ _ _ :: _) _ _); (refine alA hm ?_; clear hm; intro n w hn hz hm ho; (try simp only [List.cons_append, List.nil_append] at hm)))); try simp only [Act.put, sxQ]))
  refine bodyPost_ret (results_row_tmp rfl _ _ _ 28 _ (0, 0) _ rfl (by exact hm.at_ 2 rfl) Tryz.underlying28 rfl (by kernel_rfl)) rfl ?_
  exact WrRes.bad HH.out HE.out (by decide) (hm.still 0 rfl HK.out)
set_option maxRecDepth 100000 in
theorem wrap_plain (w0 : World) (g : Nat) (F : Nat → Prop) (s : Sec.S) (H : ChAt' w0 g F s) (hcnt : s.cnt < 1000000) (cla ins p1 p2 : Int) (A : Option Addr) (dn c : Nat) (b : List UInt8) (h : Byt w0 w0.heap.size A dn c b) (hfar : ∀ a, A = some a → 0 < dn → ¬ F a.block) (hdn : dn ≤ 70000) (le : Int) (long : Bool) (hw : Sec.wrapE s ⟨cla, ins, p1, p2, b, le, long⟩ = 0) (h1 : Sec.hb s.lvl 1 = false) :
    Calls Tryz.prog 14 #[.pointer (some ⟨g, 0, none⟩), cmdV cla ins p1 p2 A dn c le long] w0 (WrRes w0 g F s ⟨cla, ins, p1, p2, b, le, long⟩) := by
  have hbl := h.1
  subst hbl
  obtain ⟨hs, hc, hk, h4, h16, hsz⟩ := Sec.wrap_facts hw
  replace hc : Apd.chk cla ins p1 p2 b.length le long = 0 := hc
  replace hk : Apd.cok cla = true := hk
  replace h4 : ¬ cla / 4 % 2 = 1 := h4
  replace h16 : ¬ cla / 16 % 2 = 1 := h16
  replace hsz : Sec.sz b.length (Sec.hb s.lvl 2) + (if Sec.hb s.lvl 1 = true then 8 else 0) ≤ 65535 := hsz
  have HW := Lib.hid hw
  have H1 := Lib.hid h1
  have HFR := Lib.hid hfar
  have HLT := Lib.hid H.lt
  clear hw hfar
  have hck := fun u => apdu_Check cla ins p1 p2 A b.length c le long u
  rw [hc] at hck
  have HCK := Lib.hid hck
  have hcl := fun u => apdu_Class cla u
  rw [cls_plain hk h4 h16, hk] at hcl
  have HCL := Lib.hid hcl
  have HH := Lib.hid H
  have HB := Lib.hid h
  obtain ⟨a, H⟩ := H
  have HB1 := Lib.hid (has_cells (g := g) H.ok.lvl 1 (.inl rfl) h1)
  clear hck hc hk h4 h16 h1 hcl hsz h
  obtain ⟨AC, hC⟩ := H.chainAt
  have hm := H.mem
  have hK := H.blk
  rw [hs] at hm hK
  have HK := Lib.hid hK
  have HA := Lib.hid H
  have HS := Lib.hid hs
  clear H hs hK
  obtain ⟨E, ce, M, cm, R, cr, D, cd, C, cc⟩ := a
  have hC : C = some AC := hC
  subst hC
  simp only [cch] at hm HK
  unfold cmdV
  unfold infoV at HCL
  have hki : ((s.cnt : Int) + 1) = ((s.cnt + 1 : Nat) : Int) := by omega
  have HKI := Lib.hid hki
  have hci : 0 ≤ (s.cnt : Int) ∧ (s.cnt : Int) < 1000000 := by omega
  obtain ⟨hci0, hci1⟩ := hci
  have HCNT := Lib.hid hcnt
  clear hcnt hki
  generalize (cla / 128 == 1) = o128 at *
  generalize hgi : (s.cnt : Int) = ci at *
  have HGI := Lib.hid hgi
  clear hgi
  go_enter Tryz.func14, Tryz.ntmps14
  go_wp2_with (first | go_skip | ((with_reducible show wpList _ _ _ _ _ (World.alloc _ _)); refine wpList_up hm ?_; clear hm; intro n w hn hn2 hk hm hd hd2 ho; (try rw [← hn]); replace hn := Nat.le_of_eq hn.symm) | ((first | ((with_reducible show wpList _ _ _ (Oper.mk _ (Op.box _ _) _ _ _ _ :: _) _ _); (refine bxA hm ?_; clear hm; intro n w hn hz hm ho; (try simp only [List.cons_append, List.nil_append] at hm))) | ((with_reducible show wpList _ _ _ (Oper.mk _ (Op.load _ _) _ _ _ _ :: _) _ _); first | (refine ldA hm ?_) | (refine laA hm ?_)) | ((with_reducible show wpList _ _ _ (Oper.mk _ (Op.store _ _ _) _ _ _ _ :: _) _ _); (refine stA hm ?_; clear hm; intro w hz hm ho)) | ((with_reducible show wpList _ _ _ (Oper.mk _ (Op.alloc _) _ _ _ _ :: _) _ _); (refine alA hm ?_; clear hm; intro n w hn hz hm ho; (try simp only [List.cons_append, List.nil_append] at hm)))); try simp only [Act.put, sxQ]) | (go_at_call 30; refine (ch_made (by exact hm.at_ 0 rfl)).mono ?_; rintro e w2 ⟨rfl, rfl⟩) | (go_at_call 31; refine (HCK.out _).mono ?_; rintro e w2 ⟨rfl, hbl⟩; replace hm := hm.below hbl) | (go_at_call 32; refine (HCL.out _).mono ?_; rintro e w2 ⟨rfl, hbl⟩; replace hm := hm.below hbl))
  refine wp_region_noPanic ?_
  refine wp_region_held_drew (S := MemS _ _ _ _) (by kernel_rfl) (MemS.of hm.drew) (fun hHeld => ?_)
  refine wpAnyH_fresh (by repeat (first | apply Fresh.a | apply Fresh.b)) ?_
  replace hm := hm.drew
  iterate 1 (first | (refine takeN 0 hHeld ?_) | (refine takeY 0 ?_ hHeld ?_ ?_; rotate_left 1; (first | (intro w9 h9; (with_reducible show (execOp _ (Oper.mk _ (Op.load _ _) _ _ _ _)).run _ _ = _); first | exact h9.ldA) | focus (intro w9 hSw; go_simp; (try (with_reducible rfl)); done))); try simp only [Act.put, sxQ])
  refine wpAnyH_ready (rs := [1]) (by kernel_rfl) (by simp) ?_
  refine AllReadyH.cons2 (by simp only [sxN]; first | done | exact rfl) (fun K hK => ?_)
  rw [if_pos (by rfl)]
  go_simp
  refine (HB1.out _ _ _ _ _ _ _ _ _ (by exact hm.at_ 0 rfl)).mono ?_
  rintro e w9 ⟨rfl, rfl⟩
  go_simp
  refine hK.out _ _ (MemS.of hm) (fun hHeld => ?_)
  clear hK K
  try simp only [Act.put, sxQ]
  iterate 10 (first | (refine takeN 2 hHeld ?_) | (refine takeY 2 ?_ hHeld ?_ ?_; rotate_left 1; (first | (intro w9 h9; (with_reducible show (execOp _ (Oper.mk _ (Op.load _ _) _ _ _ _)).run _ _ = _); first | exact h9.ldA) | focus (intro w9 hSw; go_simp; (try (with_reducible rfl)); done))); try simp only [Act.put, sxQ])
  refine wpAnyH_done (by kernel_rfl) ?_ _
  refine NoPanic.normal ?_
  go_wp2_with (first | go_skip | ((with_reducible show wpList _ _ _ _ _ (World.alloc _ _)); refine wpList_up hm ?_; clear hm; intro n w hn hn2 hk hm hd hd2 ho; (try rw [← hn]); replace hn := Nat.le_of_eq hn.symm) | ((first | ((with_reducible show wpList _ _ _ (Oper.mk _ (Op.box _ _) _ _ _ _ :: _) _ _); (refine bxA hm ?_; clear hm; intro n w hn hz hm ho; (try simp only [List.cons_append, List.nil_append] at hm))) | ((with_reducible show wpList _ _ _ (Oper.mk _ (Op.load _ _) _ _ _ _ :: _) _ _); first | (refine ldA hm ?_) | (refine laA hm ?_)) | ((with_reducible show wpList _ _ _ (Oper.mk _ (Op.store _ _ _) _ _ _ _ :: _) _ _); (refine stA hm ?_; clear hm; intro w hz hm ho)) | ((with_reducible show wpList _ _ _ (Oper.mk _ (Op.alloc _) _ _ _ _ :: _) _ _); (refine alA hm ?_; clear hm; intro n w hn hz hm ho; (try simp only [List.cons_append, List.nil_append] at hm)))); try simp only [Act.put, sxQ]))
  go_at_call 33
  refine (HB1.out _ _ _ _ _ _ _ _ _ (by exact hm.at_ 0 rfl)).mono ?_
  rintro e w2 ⟨rfl, rfl⟩
  go_wp2_with (first | go_skip | ((with_reducible show wpList _ _ _ _ _ (World.alloc _ _)); refine wpList_up hm ?_; clear hm; intro n w hn hn2 hk hm hd hd2 ho; (try rw [← hn]); replace hn := Nat.le_of_eq hn.symm) | ((first | ((with_reducible show wpList _ _ _ (Oper.mk _ (Op.box _ _) _ _ _ _ :: _) _ _); (refine bxA hm ?_; clear hm; intro n w hn hz hm ho; (try simp only [List.cons_append, List.nil_append] at hm))) | ((with_reducible show wpList _ _ _ (Oper.mk _ (Op.load _ _) _ _ _ _ :: _) _ _); first | (refine ldA hm ?_) | (refine laA hm ?_)) | ((with_reducible show wpList _ _ _ (Oper.mk _ (Op.store _ _ _) _ _ _ _ :: _) _ _); (refine stA hm ?_; clear hm; intro w hz hm ho)) | ((with_reducible show wpList _ _ _ (Oper.mk _ (Op.alloc _) _ _ _ _ :: _) _ _); (refine alA hm ?_; clear hm; intro n w hn hz hm ho; (try simp only [List.cons_append, List.nil_append] at hm)))); try simp only [Act.put, sxQ]))
  go_at_call 35
  refine (sec_copied cla ins p1 p2 A b.length c b le long _ (by exact HB.out.only hm.only (fun a e hn hq => HFR.out a e hn (by rw [hq]; exact HA.out.fg))) (by omega)).mono ?_
  rintro e w2 ⟨A5, c5, rfl, hown, hbl⟩
  replace hm := hm.got hbl hown
  clear hown
  unfold cmdV
  go_wp2_with (first | go_skip | ((with_reducible show wpList _ _ _ _ _ (World.alloc _ _)); refine wpList_up hm ?_; clear hm; intro n w hn hn2 hk hm hd hd2 ho; (try rw [← hn]); replace hn := Nat.le_of_eq hn.symm) | ((first | ((with_reducible show wpList _ _ _ (Oper.mk _ (Op.box _ _) _ _ _ _ :: _) _ _); (refine bxA hm ?_; clear hm; intro n w hn hz hm ho; (try simp only [List.cons_append, List.nil_append] at hm))) | ((with_reducible show wpList _ _ _ (Oper.mk _ (Op.load _ _) _ _ _ _ :: _) _ _); first | (refine ldA hm ?_) | (refine laA hm ?_)) | ((with_reducible show wpList _ _ _ (Oper.mk _ (Op.store _ _ _) _ _ _ _ :: _) _ _); (refine stA hm ?_; clear hm; intro w hz hm ho)) | ((with_reducible show wpList _ _ _ (Oper.mk _ (Op.alloc _) _ _ _ _ :: _) _ _); (refine alA hm ?_; clear hm; intro n w hn hz hm ho; (try simp only [List.cons_append, List.nil_append] at hm)))); try simp only [Act.put, sxQ]))
  refine bodyPost_ret (results_row_tmp rfl _ _ _ 28 _ (0, 0) _ rfl (by exact hm.at_ 2 rfl) Tryz.underlying28 rfl (by kernel_rfl)) rfl ?_
  rw [HKI.out] at hm
  have hon := hm.only
  have hfl := HA.out.flags hon (cnt := s.cnt + 1) (exp := true) (shut := false) (by exact hm.at_ 0 rfl)
  rw [S_eq HS.out] at hfl
  exact WrRes.no HW.out H1.out rfl (hm.freshG 0 0 rfl rfl) ⟨_, hfl⟩ (hon.mono fun q _ e => by rw [e]; exact HA.out.fg) HLT.out
end Go.Proofs.YtibaibdgpnkdnaaGreatDoor
