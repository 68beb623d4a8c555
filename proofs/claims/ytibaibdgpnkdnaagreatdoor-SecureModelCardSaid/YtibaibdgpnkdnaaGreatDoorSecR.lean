/-
  The walk of Wrap at a level with LevelMac.
-/
import Derived.Test.YtibaibdgpnkdnaaGreatDoorZ1
import Derived.Test.YtibaibdgpnkdnaaGreatDoorSecQ
namespace Go.Proofs.YtibaibdgpnkdnaaGreatDoor
set_option maxRecDepth 100000
set_option linter.unusedSimpArgs false
set_option linter.unusedVariables false
open Go.RowKit
set_option maxHeartbeats 8000000

/-- Two slices of the call's own lie apart. -/
theorem far_two {R : Nat → Prop} {w0 w : World} {L : List Ent} {O : List Osl} {A A' : Option Addr} {n c n' c' s s' : Nat} {t t' : TypeId} {cs cs' : List Value} (hm : Mem R w0 w L O) (i j : Nat) (hij : i < j) (hi : O[i]? = some ⟨t, s, A, n, c, cs⟩) (hj : O[j]? = some ⟨t', s', A', n', c', cs'⟩) (hn : 0 < n) {a : Addr} (ha : A = some a) : ownAt A' c' ≠ some a.block := by
  obtain ⟨h1, h2⟩ := List.getElem?_eq_some_iff.1 hi
  obtain ⟨h3, h4⟩ := List.getElem?_eq_some_iff.1 hj
  have hp := List.pairwise_iff_getElem.1 hm.slO i j h1 h3 hij a.block
  rw [h2, h4] at hp
  have hle : n ≤ c := (hm.sl_ i hi).le
  exact hp (show ownAt A c = some a.block by unfold ownAt; rw [if_neg (by omega), ha]; rfl)
set_option maxRecDepth 100000 in
theorem wrap_mac (w0 : World) (g : Nat) (F : Nat → Prop) (s : Sec.S) (H : ChAt' w0 g F s) (hcnt : s.cnt < 1000000) (cla ins p1 p2 : Int) (A : Option Addr) (dn c : Nat) (b : List UInt8) (h : Byt w0 w0.heap.size A dn c b) (hfar : ∀ a, A = some a → 0 < dn → ¬ F a.block) (hdn : dn ≤ 70000) (le : Int) (long : Bool) (hw : Sec.wrapE s ⟨cla, ins, p1, p2, b, le, long⟩ = 0) (h1 : Sec.hb s.lvl 1 = true) (h2 : Sec.hb s.lvl 2 = false) :
    Calls Tryz.prog 14 #[.pointer (some ⟨g, 0, none⟩), cmdV cla ins p1 p2 A dn c le long] w0 (WrRes w0 g F s ⟨cla, ins, p1, p2, b, le, long⟩) := by
  have hbl := h.1
  subst hbl
  obtain ⟨hs, hc, hk, h4, h16, hsz⟩ := Sec.wrap_facts hw
  replace hc : Apd.chk cla ins p1 p2 b.length le long = 0 := hc
  replace hk : Apd.cok cla = true := hk
  replace h4 : ¬ cla / 4 % 2 = 1 := h4
  replace h16 : ¬ cla / 16 % 2 = 1 := h16
  replace hsz : Sec.sz b.length (Sec.hb s.lvl 2) + (if Sec.hb s.lvl 1 = true then 8 else 0) ≤ 65535 := hsz
  have HW := Lib.hid hw
  have H1 := Lib.hid h1
  have HFR := Lib.hid hfar
  have HLT := Lib.hid H.lt
  clear hw hfar
  rw [h1, h2, if_pos rfl] at hsz
  have hle := chk_le hc
  have HLE := Lib.hid hle
  clear hle
  have hby := fun u => apdu_Byte (cla % 4) true false (cla / 128 == 1) u
  rw [(cby_add hk h4 h16).1, (cby_add hk h4 h16).2] at hby
  have HBY := Lib.hid hby
  clear hby
  have hck := fun u => apdu_Check cla ins p1 p2 A b.length c le long u
  rw [hc] at hck
  have HCK := Lib.hid hck
  have hcl := fun u => apdu_Class cla u
  rw [cls_plain hk h4 h16, hk] at hcl
  have HCL := Lib.hid hcl
  have hzc := fun u => secure_size b.length (Sec.hb s.lvl 2) (by omega) u
  have HZC := Lib.hid hzc
  have HH := Lib.hid H
  have HB := Lib.hid h
  obtain ⟨a, H⟩ := H
  have HB1 := Lib.hid (has_cells (g := g) H.ok.lvl 1 (.inl rfl) h1)
  have HB2 := Lib.hid (has_cells (g := g) H.ok.lvl 2 (.inr (.inl rfl)) (v := Sec.hb s.lvl 2) rfl)
  rw [h2] at HZC HB2
  have HOK := Lib.hid H.ok
  clear hck hc hk h4 h16 h1 hcl hzc h
  obtain ⟨AC, hC⟩ := H.chainAt
  have hm := H.mem
  have hK := H.blk
  rw [hs] at hm hK
  have HK := Lib.hid hK
  have HA := Lib.hid H
  have HS := Lib.hid hs
  clear H hs hK
  obtain ⟨E, ce, M, cm, R, cr, D, cd, C, cc⟩ := a
  have hC : C = some AC := hC
  subst hC
  simp only [cch] at hm HK
  unfold cmdV
  unfold infoV at HCL
  have hki : ((s.cnt : Int) + 1) = ((s.cnt + 1 : Nat) : Int) := by omega
  have HKI := Lib.hid hki
  have hci : 0 ≤ (s.cnt : Int) ∧ (s.cnt : Int) < 1000000 := by omega
  obtain ⟨hci0, hci1⟩ := hci
  have HCNT := Lib.hid hcnt
  clear hcnt hki
  have hz0 : Sec.sz b.length false = b.length := by unfold Sec.sz; rw [if_neg (fun e => by cases e.1)]
  rw [hz0] at hsz HZC
  clear hz0
  have hwd : Sec.wrapD s ⟨cla, ins, p1, p2, b, le, long⟩ = b := by unfold Sec.wrapD; rw [h2]; rfl
  have HWD := Lib.hid hwd
  clear hwd h2
  have HZZ := Lib.hid (rfl : b.length = b.length)
  have i3 : decide ((65535 : Int) < ((b.length + 8 : Nat) : Int)) = false := decide_eq_false (by omega)
  generalize hzi : ((b.length + 8 : Nat) : Int) = zi at *
  have HZI := Lib.hid hzi
  clear hzi
  have HSZ := Lib.hid hsz
  clear hsz
  unfold infoV at HBY
  generalize (cla / 128 == 1) = o128 at *
  generalize hgi : (s.cnt : Int) = ci at *
  have HGI := Lib.hid hgi
  clear hgi
  generalize hg4 : cla + 4 = cla4 at *
  have HG4 := Lib.hid hg4
  clear hg4
  go_enter Tryz.func14, Tryz.ntmps14
  go_wp2_with (first | go_skip | ((with_reducible show wpList _ _ _ _ _ (World.alloc _ _)); refine wpList_up hm ?_; clear hm; intro n w hn hn2 hk hm hd hd2 ho; (try rw [← hn]); replace hn := Nat.le_of_eq hn.symm) | ((first | ((with_reducible show wpList _ _ _ (Oper.mk _ (Op.box _ _) _ _ _ _ :: _) _ _); (refine bxA hm ?_; clear hm; intro n w hn hz hm ho; (try simp only [List.cons_append, List.nil_append] at hm))) | ((with_reducible show wpList _ _ _ (Oper.mk _ (Op.load _ _) _ _ _ _ :: _) _ _); first | (refine ldA hm ?_) | (refine laA hm ?_)) | ((with_reducible show wpList _ _ _ (Oper.mk _ (Op.store _ _ _) _ _ _ _ :: _) _ _); (refine stA hm ?_; clear hm; intro w hz hm ho)) | ((with_reducible show wpList _ _ _ (Oper.mk _ (Op.alloc _) _ _ _ _ :: _) _ _); (refine alA hm ?_; clear hm; intro n w hn hz hm ho; (try simp only [List.cons_append, List.nil_append] at hm)))); try simp only [Act.put, sxQ]) | (go_at_call 30; refine (ch_made (by exact hm.at_ 0 rfl)).mono ?_; rintro e w2 ⟨rfl, rfl⟩) | (go_at_call 31; refine (HCK.out _).mono ?_; rintro e w2 ⟨rfl, hbl⟩; replace hm := hm.below hbl) | (go_at_call 32; refine (HCL.out _).mono ?_; rintro e w2 ⟨rfl, hbl⟩; replace hm := hm.below hbl))
  refine wp_region_noPanic ?_
  refine wp_region_held_drew (S := MemS _ _ _ _) (by kernel_rfl) (MemS.of hm.drew) (fun hHeld => ?_)
  refine wpAnyH_fresh (by repeat (first | apply Fresh.a | apply Fresh.b)) ?_
  replace hm := hm.drew
  iterate 1 (first | (refine takeN 0 hHeld ?_) | (refine takeY 0 ?_ hHeld ?_ ?_; rotate_left 1; (first | (intro w9 h9; (with_reducible show (execOp _ (Oper.mk _ (Op.load _ _) _ _ _ _)).run _ _ = _); first | exact h9.ldA) | focus (intro w9 hSw; go_simp; (try (with_reducible rfl)); done))); try simp only [Act.put, sxQ])
  refine wpAnyH_ready (rs := [1]) (by kernel_rfl) (by simp) ?_
  refine AllReadyH.cons2 (by simp only [sxN]; first | done | exact rfl) (fun K hK => ?_)
  rw [if_pos (by rfl)]
  go_simp
  refine (HB1.out _ _ _ _ _ _ _ _ _ (by exact hm.at_ 0 rfl)).mono ?_
  rintro e w9 ⟨rfl, rfl⟩
  go_simp
  refine hK.out _ _ (MemS.of hm) (fun hHeld => ?_)
  clear hK K
  try simp only [Act.put, sxQ]
  iterate 5 (first | (refine takeN 2 hHeld ?_) | (refine takeY 2 ?_ hHeld ?_ ?_; rotate_left 1; (first | (intro w9 h9; (with_reducible show (execOp _ (Oper.mk _ (Op.load _ _) _ _ _ _)).run _ _ = _); first | exact h9.ldA) | focus (intro w9 hSw; go_simp; (try (with_reducible rfl)); done))); try simp only [Act.put, sxQ])
  refine wpAnyH_ready (rs := [7]) (by kernel_rfl) (by simp) ?_
  refine AllReadyH.cons2 (by simp only [sxN]; first | done | exact rfl) (fun K hK => ?_)
  rw [if_pos (by rfl)]
  go_simp
  refine (HB2.out _ _ _ _ _ _ _ _ _ (by exact hm.at_ 0 rfl)).mono ?_
  rintro e w9 ⟨rfl, rfl⟩
  go_simp
  refine hK.out _ _ (MemS.of hm) (fun hHeld => ?_)
  clear hK K
  try simp only [Act.put, sxQ]
  refine wpAnyH_ready (rs := [8]) (by kernel_rfl) (by simp) ?_
  refine AllReadyH.cons2 (by simp only [sxN]; first | done | exact rfl) (fun K hK => ?_)
  rw [if_pos (by rfl)]
  go_simp
  refine (HZC.out _).mono ?_
  rintro e w9 ⟨rfl, rfl⟩
  go_simp
  refine hK.out _ _ (MemS.of hm) (fun hHeld => ?_)
  clear hK K
  try simp only [Act.put, sxQ]
  iterate 3 (first | (refine takeN 9 hHeld ?_) | (refine takeY 9 ?_ hHeld ?_ ?_; rotate_left 1; (first | (intro w9 h9; (with_reducible show (execOp _ (Oper.mk _ (Op.load _ _) _ _ _ _)).run _ _ = _); first | exact h9.ldA) | focus (intro w9 hSw; go_simp; (try (with_reducible rfl)); done))); try simp only [Act.put, sxQ])
  refine wpAnyH_done (by kernel_rfl) ?_ _
  refine NoPanic.normal ?_
  go_wp2_with (first | go_skip | ((with_reducible show wpList _ _ _ _ _ (World.alloc _ _)); refine wpList_up hm ?_; clear hm; intro n w hn hn2 hk hm hd hd2 ho; (try rw [← hn]); replace hn := Nat.le_of_eq hn.symm) | ((first | ((with_reducible show wpList _ _ _ (Oper.mk _ (Op.box _ _) _ _ _ _ :: _) _ _); (refine bxA hm ?_; clear hm; intro n w hn hz hm ho; (try simp only [List.cons_append, List.nil_append] at hm))) | ((with_reducible show wpList _ _ _ (Oper.mk _ (Op.load _ _) _ _ _ _ :: _) _ _); first | (refine ldA hm ?_) | (refine laA hm ?_)) | ((with_reducible show wpList _ _ _ (Oper.mk _ (Op.store _ _ _) _ _ _ _ :: _) _ _); (refine stA hm ?_; clear hm; intro w hz hm ho)) | ((with_reducible show wpList _ _ _ (Oper.mk _ (Op.alloc _) _ _ _ _ :: _) _ _); (refine alA hm ?_; clear hm; intro n w hn hz hm ho; (try simp only [List.cons_append, List.nil_append] at hm)))); try simp only [Act.put, sxQ]))
  go_at_call 33
  refine (HB1.out _ _ _ _ _ _ _ _ _ (by exact hm.at_ 0 rfl)).mono ?_
  rintro e w2 ⟨rfl, rfl⟩
  go_wp2_with (first | go_skip | ((with_reducible show wpList _ _ _ _ _ (World.alloc _ _)); refine wpList_up hm ?_; clear hm; intro n w hn hn2 hk hm hd hd2 ho; (try rw [← hn]); replace hn := Nat.le_of_eq hn.symm) | ((first | ((with_reducible show wpList _ _ _ (Oper.mk _ (Op.box _ _) _ _ _ _ :: _) _ _); (refine bxA hm ?_; clear hm; intro n w hn hz hm ho; (try simp only [List.cons_append, List.nil_append] at hm))) | ((with_reducible show wpList _ _ _ (Oper.mk _ (Op.load _ _) _ _ _ _ :: _) _ _); first | (refine ldA hm ?_) | (refine laA hm ?_)) | ((with_reducible show wpList _ _ _ (Oper.mk _ (Op.store _ _ _) _ _ _ _ :: _) _ _); (refine stA hm ?_; clear hm; intro w hz hm ho)) | ((with_reducible show wpList _ _ _ (Oper.mk _ (Op.alloc _) _ _ _ _ :: _) _ _); (refine alA hm ?_; clear hm; intro n w hn hz hm ho; (try simp only [List.cons_append, List.nil_append] at hm)))); try simp only [Act.put, sxQ]))
  go_at_call 36
  refine (HBY.out _).mono ?_
  rintro e w2 ⟨rfl, hbl⟩
  replace hm := hm.below hbl
  go_wp2_with (first | go_skip | ((with_reducible show wpList _ _ _ _ _ (World.alloc _ _)); refine wpList_up hm ?_; clear hm; intro n w hn hn2 hk hm hd hd2 ho; (try rw [← hn]); replace hn := Nat.le_of_eq hn.symm) | ((first | ((with_reducible show wpList _ _ _ (Oper.mk _ (Op.box _ _) _ _ _ _ :: _) _ _); (refine bxA hm ?_; clear hm; intro n w hn hz hm ho; (try simp only [List.cons_append, List.nil_append] at hm))) | ((with_reducible show wpList _ _ _ (Oper.mk _ (Op.load _ _) _ _ _ _ :: _) _ _); first | (refine ldA hm ?_) | (refine laA hm ?_)) | ((with_reducible show wpList _ _ _ (Oper.mk _ (Op.store _ _ _) _ _ _ _ :: _) _ _); (refine stA hm ?_; clear hm; intro w hz hm ho)) | ((with_reducible show wpList _ _ _ (Oper.mk _ (Op.alloc _) _ _ _ _ :: _) _ _); (refine alA hm ?_; clear hm; intro n w hn hz hm ho; (try simp only [List.cons_append, List.nil_append] at hm)))); try simp only [Act.put, sxQ]))
  go_at_call 33
  refine (HB2.out _ _ _ _ _ _ _ _ _ (by exact hm.at_ 0 rfl)).mono ?_
  rintro e w2 ⟨rfl, rfl⟩
  go_wp2_with (first | go_skip | ((with_reducible show wpList _ _ _ _ _ (World.alloc _ _)); refine wpList_up hm ?_; clear hm; intro n w hn hn2 hk hm hd hd2 ho; (try rw [← hn]); replace hn := Nat.le_of_eq hn.symm) | ((first | ((with_reducible show wpList _ _ _ (Oper.mk _ (Op.box _ _) _ _ _ _ :: _) _ _); (refine bxA hm ?_; clear hm; intro n w hn hz hm ho; (try simp only [List.cons_append, List.nil_append] at hm))) | ((with_reducible show wpList _ _ _ (Oper.mk _ (Op.load _ _) _ _ _ _ :: _) _ _); first | (refine ldA hm ?_) | (refine laA hm ?_)) | ((with_reducible show wpList _ _ _ (Oper.mk _ (Op.store _ _ _) _ _ _ _ :: _) _ _); (refine stA hm ?_; clear hm; intro w hz hm ho)) | ((with_reducible show wpList _ _ _ (Oper.mk _ (Op.alloc _) _ _ _ _ :: _) _ _); (refine alA hm ?_; clear hm; intro n w hn hz hm ho; (try simp only [List.cons_append, List.nil_append] at hm)))); try simp only [Act.put, sxQ]))
  rw [HKI.out] at hm
  have hfl2 := HA.out.flags hm.only (cnt := s.cnt + 1) (exp := true) (shut := false) (by exact hm.at_ 0 rfl)
  go_at_call 38
  refine (ch_cmac _ g F { s with cnt := s.cnt + 1, exp := true, shut := false } ⟨_, hfl2⟩ cla4 ins p1 p2 A b.length c le long HLE.out A b.length c b (by exact HB.out.only hm.only (fun a e hn hq => HFR.out a e hn (by rw [hq]; exact HA.out.fg))) (by have := HSZ.out; omega)).mono ?_
  intro e w2 hor
  obtain ⟨A6, c6, rfl, hown, hbl⟩ := hor.len (n := 8) (Sec.cmac_length _ _ _ _ _ _ _ hfl2.ok)
  clear hor hfl2
  replace hm := hm.got hbl hown
  clear hown
  simp only [List.nil_append, List.cons_append] at hm
  go_wp2_with (first | go_skip | ((with_reducible show wpList _ _ _ _ _ (World.alloc _ _)); refine wpList_up hm ?_; clear hm; intro n w hn hn2 hk hm hd hd2 ho; (try rw [← hn]); replace hn := Nat.le_of_eq hn.symm) | ((first | ((with_reducible show wpList _ _ _ (Oper.mk _ (Op.box _ _) _ _ _ _ :: _) _ _); (refine bxA hm ?_; clear hm; intro n w hn hz hm ho; (try simp only [List.cons_append, List.nil_append] at hm))) | ((with_reducible show wpList _ _ _ (Oper.mk _ (Op.load _ _) _ _ _ _ :: _) _ _); first | (refine ldA hm ?_) | (refine laA hm ?_)) | ((with_reducible show wpList _ _ _ (Oper.mk _ (Op.store _ _ _) _ _ _ _ :: _) _ _); (refine stA hm ?_; clear hm; intro w hz hm ho)) | ((with_reducible show wpList _ _ _ (Oper.mk _ (Op.alloc _) _ _ _ _ :: _) _ _); (refine alA hm ?_; clear hm; intro n w hn hz hm ho; (try simp only [List.cons_append, List.nil_append] at hm)))); try simp only [Act.put, sxQ]))
  obtain ⟨m, hmm⟩ : ∃ m : Nat, m = b.length + 8 := ⟨_, rfl⟩
  have HMM := Lib.hid hmm
  clear hmm
  have HCL8 := Lib.hid (Sec.cmac_length { s with cnt := s.cnt + 1, exp := true, shut := false } cla4 ins p1 p2 le (b) { enc := HOK.out.enc, mac := HOK.out.mac, rmac := HOK.out.rmac, dat := HOK.out.dat, lvl := HOK.out.lvl, chain := HOK.out.chain })
  have hm2 := hm.row hk hn2 hd hd2 1 2 [.slice A b.length c, .slice A6 8 c6] rfl rfl (by unfold maxLen; omega)
  clear hm hd hd2
  go_at_call 39
  refine (join_list n [⟨A, b.length, c, b⟩, ⟨A6, 8, c6, Sec.cmac { s with cnt := s.cnt + 1, exp := true, shut := false } cla4 ins p1 p2 le (b)⟩] 2 m rfl _ (by exact (hm2.sl_ 1 rfl).row) (by
    intro v hv
    simp only [List.mem_cons, List.not_mem_nil, or_false] at hv
    rcases hv with rfl | rfl
    · exact HB.out.only hm2.only (fun a e hn hq => HFR.out a e hn (by rw [hq]; exact HA.out.fg))
    · exact (hm2.sl_ 0 rfl).byt (Nat.le_refl _)) (by simp [joined, HCL8.out, HMM.out]) (by have := HSZ.out; have := HMM.out; omega) (by omega)).mono ?_
  rintro e w7 ⟨A7, c7, rfl, hown, hbl⟩
  rw [show joined [⟨A, b.length, c, b⟩, ⟨A6, 8, c6, Sec.cmac { s with cnt := s.cnt + 1, exp := true, shut := false } cla4 ins p1 p2 le (b)⟩] = b ++ Sec.cmac { s with cnt := s.cnt + 1, exp := true, shut := false } cla4 ins p1 p2 le (b) by simp [joined]] at hown
  have hm := hm2.less.got hbl hown
  clear hown hm2 hk
  simp only [List.nil_append, List.cons_append] at hm
  cases long with
  | false =>
    go_wp2_with (first | go_skip | ((with_reducible show wpList _ _ _ _ _ (World.alloc _ _)); refine wpList_up hm ?_; clear hm; intro n w hn hn2 hk hm hd hd2 ho; (try rw [← hn]); replace hn := Nat.le_of_eq hn.symm) | ((first | ((with_reducible show wpList _ _ _ (Oper.mk _ (Op.box _ _) _ _ _ _ :: _) _ _); (refine bxA hm ?_; clear hm; intro n w hn hz hm ho; (try simp only [List.cons_append, List.nil_append] at hm))) | ((with_reducible show wpList _ _ _ (Oper.mk _ (Op.load _ _) _ _ _ _ :: _) _ _); first | (refine ldA hm ?_) | (refine laA hm ?_)) | ((with_reducible show wpList _ _ _ (Oper.mk _ (Op.store _ _ _) _ _ _ _ :: _) _ _); (refine stA hm ?_; clear hm; intro w hz hm ho)) | ((with_reducible show wpList _ _ _ (Oper.mk _ (Op.alloc _) _ _ _ _ :: _) _ _); (refine alA hm ?_; clear hm; intro n w hn hz hm ho; (try simp only [List.cons_append, List.nil_append] at hm)))); try simp only [Act.put, sxQ]))
    refine bodyPost_ret (results_row_tmp rfl _ _ _ 28 _ (0, 0) _ rfl (by exact hm.at_ 2 rfl) Tryz.underlying28 rfl (by kernel_rfl)) rfl ?_
    have hon := hm.only
    have hfo := far_of hm 0 0 rfl rfl (by omega)
    have hfl := HA.out.chained hon (cnt := s.cnt + 1) (exp := true) (shut := false) (C := A6) (cc := c6) (F' := fun q => F q ∨ ∃ a, A6 = some a ∧ q = a.block) (m := Sec.cmac { s with cnt := s.cnt + 1, exp := true, shut := false } cla4 ins p1 p2 le (b)) (fun q hq => .inl hq) (by
      rintro q (hq | ⟨a, ha, rfl⟩)
      · exact Nat.lt_of_lt_of_le (HLT.out q hq) hon.size
      · exact (hfo a ha).2.1) HCL8.out ⟨(hm.sl_ 0 rfl).byt (Nat.le_refl _), fun a ha => ⟨.inr ⟨a, ha, rfl⟩, (hfo a ha).1⟩⟩ (by exact hm.at_ 0 rfl)
    rw [S_eq HS.out] at hfl
    have hown := hm.freshG 0 1 rfl rfl
    have h4 := HG4.out
    subst h4
    refine WrRes.mac HW.out H1.out HWD.out rfl (by simp [Sec.cmac_length s _ _ _ _ _ _ HOK.out, HMM.out]) hown ⟨_, hfl⟩ (hon.mono fun q _ e => by rw [e]; exact HA.out.fg) (by
      rintro q (hq | ⟨a, ha, rfl⟩)
      · exact .inl hq
      · exact .inr (hfo a ha).2.2) (by
      rintro q (hq | ⟨a, ha, rfl⟩) e
      · have := HLT.out q hq; have := (hown.lt q e).1; omega
      · exact far_two hm 0 1 (by decide) rfl rfl (by omega) ha e) (by first | rfl | (simp; omega) | simp)
  | true =>
    go_wp2_with (first | go_skip | ((with_reducible show wpList _ _ _ _ _ (World.alloc _ _)); refine wpList_up hm ?_; clear hm; intro n w hn hn2 hk hm hd hd2 ho; (try rw [← hn]); replace hn := Nat.le_of_eq hn.symm) | ((first | ((with_reducible show wpList _ _ _ (Oper.mk _ (Op.box _ _) _ _ _ _ :: _) _ _); (refine bxA hm ?_; clear hm; intro n w hn hz hm ho; (try simp only [List.cons_append, List.nil_append] at hm))) | ((with_reducible show wpList _ _ _ (Oper.mk _ (Op.load _ _) _ _ _ _ :: _) _ _); first | (refine ldA hm ?_) | (refine laA hm ?_)) | ((with_reducible show wpList _ _ _ (Oper.mk _ (Op.store _ _ _) _ _ _ _ :: _) _ _); (refine stA hm ?_; clear hm; intro w hz hm ho)) | ((with_reducible show wpList _ _ _ (Oper.mk _ (Op.alloc _) _ _ _ _ :: _) _ _); (refine alA hm ?_; clear hm; intro n w hn hz hm ho; (try simp only [List.cons_append, List.nil_append] at hm)))); try simp only [Act.put, sxQ]))
    refine bodyPost_ret (results_row_tmp rfl _ _ _ 28 _ (0, 0) _ rfl (by exact hm.at_ 2 rfl) Tryz.underlying28 rfl (by kernel_rfl)) rfl ?_
    have hon := hm.only
    have hfo := far_of hm 0 0 rfl rfl (by omega)
    have hfl := HA.out.chained hon (cnt := s.cnt + 1) (exp := true) (shut := false) (C := A6) (cc := c6) (F' := fun q => F q ∨ ∃ a, A6 = some a ∧ q = a.block) (m := Sec.cmac { s with cnt := s.cnt + 1, exp := true, shut := false } cla4 ins p1 p2 le (b)) (fun q hq => .inl hq) (by
      rintro q (hq | ⟨a, ha, rfl⟩)
      · exact Nat.lt_of_lt_of_le (HLT.out q hq) hon.size
      · exact (hfo a ha).2.1) HCL8.out ⟨(hm.sl_ 0 rfl).byt (Nat.le_refl _), fun a ha => ⟨.inr ⟨a, ha, rfl⟩, (hfo a ha).1⟩⟩ (by exact hm.at_ 0 rfl)
    rw [S_eq HS.out] at hfl
    have hown := hm.freshG 0 1 rfl rfl
    have h4 := HG4.out
    subst h4
    refine WrRes.mac HW.out H1.out HWD.out rfl (by simp [Sec.cmac_length s _ _ _ _ _ _ HOK.out, HMM.out]) hown ⟨_, hfl⟩ (hon.mono fun q _ e => by rw [e]; exact HA.out.fg) (by
      rintro q (hq | ⟨a, ha, rfl⟩)
      · exact .inl hq
      · exact .inr (hfo a ha).2.2) (by
      rintro q (hq | ⟨a, ha, rfl⟩) e
      · have := HLT.out q hq; have := (hown.lt q e).1; omega
      · exact far_two hm 0 1 (by decide) rfl rfl (by omega) ha e) (by first | rfl | (simp; omega) | simp)
set_option maxRecDepth 100000 in
theorem wrap_enc (w0 : World) (g : Nat) (F : Nat → Prop) (s : Sec.S) (H : ChAt' w0 g F s) (hcnt : s.cnt < 1000000) (cla ins p1 p2 : Int) (A : Option Addr) (dn c : Nat) (b : List UInt8) (h : Byt w0 w0.heap.size A dn c b) (hfar : ∀ a, A = some a → 0 < dn → ¬ F a.block) (hdn : dn ≤ 70000) (le : Int) (long : Bool) (hw : Sec.wrapE s ⟨cla, ins, p1, p2, b, le, long⟩ = 0) (h1 : Sec.hb s.lvl 1 = true) (h2 : Sec.hb s.lvl 2 = true) :
    Calls Tryz.prog 14 #[.pointer (some ⟨g, 0, none⟩), cmdV cla ins p1 p2 A dn c le long] w0 (WrRes w0 g F s ⟨cla, ins, p1, p2, b, le, long⟩) := by
  have hbl := h.1
  subst hbl
  obtain ⟨hs, hc, hk, h4, h16, hsz⟩ := Sec.wrap_facts hw
  replace hc : Apd.chk cla ins p1 p2 b.length le long = 0 := hc
  replace hk : Apd.cok cla = true := hk
  replace h4 : ¬ cla / 4 % 2 = 1 := h4
  replace h16 : ¬ cla / 16 % 2 = 1 := h16
  replace hsz : Sec.sz b.length (Sec.hb s.lvl 2) + (if Sec.hb s.lvl 1 = true then 8 else 0) ≤ 65535 := hsz
  have HW := Lib.hid hw
  have H1 := Lib.hid h1
  have HFR := Lib.hid hfar
  have HLT := Lib.hid H.lt
  clear hw hfar
  rw [h1, h2, if_pos rfl] at hsz
  have hle := chk_le hc
  have HLE := Lib.hid hle
  clear hle
  have hby := fun u => apdu_Byte (cla % 4) true false (cla / 128 == 1) u
  rw [(cby_add hk h4 h16).1, (cby_add hk h4 h16).2] at hby
  have HBY := Lib.hid hby
  clear hby
  have hck := fun u => apdu_Check cla ins p1 p2 A b.length c le long u
  rw [hc] at hck
  have HCK := Lib.hid hck
  have hcl := fun u => apdu_Class cla u
  rw [cls_plain hk h4 h16, hk] at hcl
  have HCL := Lib.hid hcl
  have hzc := fun u => secure_size b.length (Sec.hb s.lvl 2) (by omega) u
  have HZC := Lib.hid hzc
  have HH := Lib.hid H
  have HB := Lib.hid h
  obtain ⟨a, H⟩ := H
  have HB1 := Lib.hid (has_cells (g := g) H.ok.lvl 1 (.inl rfl) h1)
  have HB2 := Lib.hid (has_cells (g := g) H.ok.lvl 2 (.inr (.inl rfl)) (v := Sec.hb s.lvl 2) rfl)
  rw [h2] at HZC HB2
  have HOK := Lib.hid H.ok
  clear hck hc hk h4 h16 h1 hcl hzc h
  obtain ⟨AC, hC⟩ := H.chainAt
  have hm := H.mem
  have hK := H.blk
  rw [hs] at hm hK
  have HK := Lib.hid hK
  have HA := Lib.hid H
  have HS := Lib.hid hs
  clear H hs hK
  obtain ⟨E, ce, M, cm, R, cr, D, cd, C, cc⟩ := a
  have hC : C = some AC := hC
  subst hC
  simp only [cch] at hm HK
  unfold cmdV
  unfold infoV at HCL
  have hki : ((s.cnt : Int) + 1) = ((s.cnt + 1 : Nat) : Int) := by omega
  have HKI := Lib.hid hki
  have hci : 0 ≤ (s.cnt : Int) ∧ (s.cnt : Int) < 1000000 := by omega
  obtain ⟨hci0, hci1⟩ := hci
  have HCNT := Lib.hid hcnt
  clear hcnt hki
  have hhl : (Sec.hide { s with cnt := s.cnt + 1, exp := true, shut := false } false b).length = Sec.sz b.length true := by
    rw [Sec.hide_length { s with cnt := s.cnt + 1, exp := true, shut := false } false b HOK.out.enc]
    unfold Sec.sz
    by_cases h0 : 0 < b.length
    · rw [if_pos h0, if_pos ⟨rfl, h0⟩]
    · rw [if_neg h0, if_neg (fun e => h0 e.2)]; omega
  have HHL := Lib.hid hhl
  clear hhl
  have hwd : Sec.wrapD s ⟨cla, ins, p1, p2, b, le, long⟩ = Sec.hide { s with cnt := s.cnt + 1, exp := true, shut := false } false b := by unfold Sec.wrapD; rw [h2]; rfl
  have HWD := Lib.hid hwd
  clear hwd h2
  generalize hzz : Sec.sz b.length true = z at *
  have HZZ := Lib.hid hzz
  clear hzz
  have i3 : decide ((65535 : Int) < ((z + 8 : Nat) : Int)) = false := decide_eq_false (by omega)
  generalize hzi : ((z + 8 : Nat) : Int) = zi at *
  have HZI := Lib.hid hzi
  clear hzi
  have HSZ := Lib.hid hsz
  clear hsz
  unfold infoV at HBY
  generalize (cla / 128 == 1) = o128 at *
  generalize hgi : (s.cnt : Int) = ci at *
  have HGI := Lib.hid hgi
  clear hgi
  generalize hg4 : cla + 4 = cla4 at *
  have HG4 := Lib.hid hg4
  clear hg4
  go_enter Tryz.func14, Tryz.ntmps14
  go_wp2_with (first | go_skip | ((with_reducible show wpList _ _ _ _ _ (World.alloc _ _)); refine wpList_up hm ?_; clear hm; intro n w hn hn2 hk hm hd hd2 ho; (try rw [← hn]); replace hn := Nat.le_of_eq hn.symm) | ((first | ((with_reducible show wpList _ _ _ (Oper.mk _ (Op.box _ _) _ _ _ _ :: _) _ _); (refine bxA hm ?_; clear hm; intro n w hn hz hm ho; (try simp only [List.cons_append, List.nil_append] at hm))) | ((with_reducible show wpList _ _ _ (Oper.mk _ (Op.load _ _) _ _ _ _ :: _) _ _); first | (refine ldA hm ?_) | (refine laA hm ?_)) | ((with_reducible show wpList _ _ _ (Oper.mk _ (Op.store _ _ _) _ _ _ _ :: _) _ _); (refine stA hm ?_; clear hm; intro w hz hm ho)) | ((with_reducible show wpList _ _ _ (Oper.mk _ (Op.alloc _) _ _ _ _ :: _) _ _); (refine alA hm ?_; clear hm; intro n w hn hz hm ho; (try simp only [List.cons_append, List.nil_append] at hm)))); try simp only [Act.put, sxQ]) | (go_at_call 30; refine (ch_made (by exact hm.at_ 0 rfl)).mono ?_; rintro e w2 ⟨rfl, rfl⟩) | (go_at_call 31; refine (HCK.out _).mono ?_; rintro e w2 ⟨rfl, hbl⟩; replace hm := hm.below hbl) | (go_at_call 32; refine (HCL.out _).mono ?_; rintro e w2 ⟨rfl, hbl⟩; replace hm := hm.below hbl))
  refine wp_region_noPanic ?_
  refine wp_region_held_drew (S := MemS _ _ _ _) (by kernel_rfl) (MemS.of hm.drew) (fun hHeld => ?_)
  refine wpAnyH_fresh (by repeat (first | apply Fresh.a | apply Fresh.b)) ?_
  replace hm := hm.drew
  iterate 1 (first | (refine takeN 0 hHeld ?_) | (refine takeY 0 ?_ hHeld ?_ ?_; rotate_left 1; (first | (intro w9 h9; (with_reducible show (execOp _ (Oper.mk _ (Op.load _ _) _ _ _ _)).run _ _ = _); first | exact h9.ldA) | focus (intro w9 hSw; go_simp; (try (with_reducible rfl)); done))); try simp only [Act.put, sxQ])
  refine wpAnyH_ready (rs := [1]) (by kernel_rfl) (by simp) ?_
  refine AllReadyH.cons2 (by simp only [sxN]; first | done | exact rfl) (fun K hK => ?_)
  rw [if_pos (by rfl)]
  go_simp
  refine (HB1.out _ _ _ _ _ _ _ _ _ (by exact hm.at_ 0 rfl)).mono ?_
  rintro e w9 ⟨rfl, rfl⟩
  go_simp
  refine hK.out _ _ (MemS.of hm) (fun hHeld => ?_)
  clear hK K
  try simp only [Act.put, sxQ]
  iterate 5 (first | (refine takeN 2 hHeld ?_) | (refine takeY 2 ?_ hHeld ?_ ?_; rotate_left 1; (first | (intro w9 h9; (with_reducible show (execOp _ (Oper.mk _ (Op.load _ _) _ _ _ _)).run _ _ = _); first | exact h9.ldA) | focus (intro w9 hSw; go_simp; (try (with_reducible rfl)); done))); try simp only [Act.put, sxQ])
  refine wpAnyH_ready (rs := [7]) (by kernel_rfl) (by simp) ?_
  refine AllReadyH.cons2 (by simp only [sxN]; first | done | exact rfl) (fun K hK => ?_)
  rw [if_pos (by rfl)]
  go_simp
  refine (HB2.out _ _ _ _ _ _ _ _ _ (by exact hm.at_ 0 rfl)).mono ?_
  rintro e w9 ⟨rfl, rfl⟩
  go_simp
  refine hK.out _ _ (MemS.of hm) (fun hHeld => ?_)
  clear hK K
  try simp only [Act.put, sxQ]
  refine wpAnyH_ready (rs := [8]) (by kernel_rfl) (by simp) ?_
  refine AllReadyH.cons2 (by simp only [sxN]; first | done | exact rfl) (fun K hK => ?_)
  rw [if_pos (by rfl)]
  go_simp
  refine (HZC.out _).mono ?_
  rintro e w9 ⟨rfl, rfl⟩
  go_simp
  refine hK.out _ _ (MemS.of hm) (fun hHeld => ?_)
  clear hK K
  try simp only [Act.put, sxQ]
  iterate 3 (first | (refine takeN 9 hHeld ?_) | (refine takeY 9 ?_ hHeld ?_ ?_; rotate_left 1; (first | (intro w9 h9; (with_reducible show (execOp _ (Oper.mk _ (Op.load _ _) _ _ _ _)).run _ _ = _); first | exact h9.ldA) | focus (intro w9 hSw; go_simp; (try (with_reducible rfl)); done))); try simp only [Act.put, sxQ])
  refine wpAnyH_done (by kernel_rfl) ?_ _
  refine NoPanic.normal ?_
  go_wp2_with (first | go_skip | ((with_reducible show wpList _ _ _ _ _ (World.alloc _ _)); refine wpList_up hm ?_; clear hm; intro n w hn hn2 hk hm hd hd2 ho; (try rw [← hn]); replace hn := Nat.le_of_eq hn.symm) | ((first | ((with_reducible show wpList _ _ _ (Oper.mk _ (Op.box _ _) _ _ _ _ :: _) _ _); (refine bxA hm ?_; clear hm; intro n w hn hz hm ho; (try simp only [List.cons_append, List.nil_append] at hm))) | ((with_reducible show wpList _ _ _ (Oper.mk _ (Op.load _ _) _ _ _ _ :: _) _ _); first | (refine ldA hm ?_) | (refine laA hm ?_)) | ((with_reducible show wpList _ _ _ (Oper.mk _ (Op.store _ _ _) _ _ _ _ :: _) _ _); (refine stA hm ?_; clear hm; intro w hz hm ho)) | ((with_reducible show wpList _ _ _ (Oper.mk _ (Op.alloc _) _ _ _ _ :: _) _ _); (refine alA hm ?_; clear hm; intro n w hn hz hm ho; (try simp only [List.cons_append, List.nil_append] at hm)))); try simp only [Act.put, sxQ]))
  go_at_call 33
  refine (HB1.out _ _ _ _ _ _ _ _ _ (by exact hm.at_ 0 rfl)).mono ?_
  rintro e w2 ⟨rfl, rfl⟩
  go_wp2_with (first | go_skip | ((with_reducible show wpList _ _ _ _ _ (World.alloc _ _)); refine wpList_up hm ?_; clear hm; intro n w hn hn2 hk hm hd hd2 ho; (try rw [← hn]); replace hn := Nat.le_of_eq hn.symm) | ((first | ((with_reducible show wpList _ _ _ (Oper.mk _ (Op.box _ _) _ _ _ _ :: _) _ _); (refine bxA hm ?_; clear hm; intro n w hn hz hm ho; (try simp only [List.cons_append, List.nil_append] at hm))) | ((with_reducible show wpList _ _ _ (Oper.mk _ (Op.load _ _) _ _ _ _ :: _) _ _); first | (refine ldA hm ?_) | (refine laA hm ?_)) | ((with_reducible show wpList _ _ _ (Oper.mk _ (Op.store _ _ _) _ _ _ _ :: _) _ _); (refine stA hm ?_; clear hm; intro w hz hm ho)) | ((with_reducible show wpList _ _ _ (Oper.mk _ (Op.alloc _) _ _ _ _ :: _) _ _); (refine alA hm ?_; clear hm; intro n w hn hz hm ho; (try simp only [List.cons_append, List.nil_append] at hm)))); try simp only [Act.put, sxQ]))
  go_at_call 36
  refine (HBY.out _).mono ?_
  rintro e w2 ⟨rfl, hbl⟩
  replace hm := hm.below hbl
  go_wp2_with (first | go_skip | ((with_reducible show wpList _ _ _ _ _ (World.alloc _ _)); refine wpList_up hm ?_; clear hm; intro n w hn hn2 hk hm hd hd2 ho; (try rw [← hn]); replace hn := Nat.le_of_eq hn.symm) | ((first | ((with_reducible show wpList _ _ _ (Oper.mk _ (Op.box _ _) _ _ _ _ :: _) _ _); (refine bxA hm ?_; clear hm; intro n w hn hz hm ho; (try simp only [List.cons_append, List.nil_append] at hm))) | ((with_reducible show wpList _ _ _ (Oper.mk _ (Op.load _ _) _ _ _ _ :: _) _ _); first | (refine ldA hm ?_) | (refine laA hm ?_)) | ((with_reducible show wpList _ _ _ (Oper.mk _ (Op.store _ _ _) _ _ _ _ :: _) _ _); (refine stA hm ?_; clear hm; intro w hz hm ho)) | ((with_reducible show wpList _ _ _ (Oper.mk _ (Op.alloc _) _ _ _ _ :: _) _ _); (refine alA hm ?_; clear hm; intro n w hn hz hm ho; (try simp only [List.cons_append, List.nil_append] at hm)))); try simp only [Act.put, sxQ]))
  go_at_call 33
  refine (HB2.out _ _ _ _ _ _ _ _ _ (by exact hm.at_ 0 rfl)).mono ?_
  rintro e w2 ⟨rfl, rfl⟩
  go_wp2_with (first | go_skip | ((with_reducible show wpList _ _ _ _ _ (World.alloc _ _)); refine wpList_up hm ?_; clear hm; intro n w hn hn2 hk hm hd hd2 ho; (try rw [← hn]); replace hn := Nat.le_of_eq hn.symm) | ((first | ((with_reducible show wpList _ _ _ (Oper.mk _ (Op.box _ _) _ _ _ _ :: _) _ _); (refine bxA hm ?_; clear hm; intro n w hn hz hm ho; (try simp only [List.cons_append, List.nil_append] at hm))) | ((with_reducible show wpList _ _ _ (Oper.mk _ (Op.load _ _) _ _ _ _ :: _) _ _); first | (refine ldA hm ?_) | (refine laA hm ?_)) | ((with_reducible show wpList _ _ _ (Oper.mk _ (Op.store _ _ _) _ _ _ _ :: _) _ _); (refine stA hm ?_; clear hm; intro w hz hm ho)) | ((with_reducible show wpList _ _ _ (Oper.mk _ (Op.alloc _) _ _ _ _ :: _) _ _); (refine alA hm ?_; clear hm; intro n w hn hz hm ho; (try simp only [List.cons_append, List.nil_append] at hm)))); try simp only [Act.put, sxQ]))
  rw [HKI.out] at hm
  have hfl1 := HA.out.flags hm.only (cnt := s.cnt + 1) (exp := true) (shut := false) (by exact hm.at_ 0 rfl)
  go_at_call 37
  refine (ch_encrypt _ g F { s with cnt := s.cnt + 1, exp := true, shut := false } ⟨_, hfl1⟩ (by have := HCNT.out; show s.cnt + 1 ≤ 1000000; omega) A b.length c b (by exact HB.out.only hm.only (fun a e hn hq => HFR.out a e hn (by rw [hq]; exact HA.out.fg))) (by omega) false).mono ?_
  intro e w2 hor
  obtain ⟨A5, c5, rfl, hown, hbl⟩ := hor.len HHL.out
  clear hor hfl1
  rw [HZZ.out] at *
  replace hm := hm.got hbl hown
  clear hown
  go_wp2_with (first | go_skip | ((with_reducible show wpList _ _ _ _ _ (World.alloc _ _)); refine wpList_up hm ?_; clear hm; intro n w hn hn2 hk hm hd hd2 ho; (try rw [← hn]); replace hn := Nat.le_of_eq hn.symm) | ((first | ((with_reducible show wpList _ _ _ (Oper.mk _ (Op.box _ _) _ _ _ _ :: _) _ _); (refine bxA hm ?_; clear hm; intro n w hn hz hm ho; (try simp only [List.cons_append, List.nil_append] at hm))) | ((with_reducible show wpList _ _ _ (Oper.mk _ (Op.load _ _) _ _ _ _ :: _) _ _); first | (refine ldA hm ?_) | (refine laA hm ?_)) | ((with_reducible show wpList _ _ _ (Oper.mk _ (Op.store _ _ _) _ _ _ _ :: _) _ _); (refine stA hm ?_; clear hm; intro w hz hm ho)) | ((with_reducible show wpList _ _ _ (Oper.mk _ (Op.alloc _) _ _ _ _ :: _) _ _); (refine alA hm ?_; clear hm; intro n w hn hz hm ho; (try simp only [List.cons_append, List.nil_append] at hm)))); try simp only [Act.put, sxQ]))
  have hfl2 := HA.out.flags hm.only (cnt := s.cnt + 1) (exp := true) (shut := false) (by exact hm.at_ 0 rfl)
  go_at_call 38
  refine (ch_cmac _ g F { s with cnt := s.cnt + 1, exp := true, shut := false } ⟨_, hfl2⟩ cla4 ins p1 p2 A b.length c le long HLE.out A5 z c5 (Sec.hide { s with cnt := s.cnt + 1, exp := true, shut := false } false b) (by exact (hm.sl_ 0 rfl).byt (Nat.le_refl _)) (by have := HSZ.out; omega)).mono ?_
  intro e w2 hor
  obtain ⟨A6, c6, rfl, hown, hbl⟩ := hor.len (n := 8) (Sec.cmac_length _ _ _ _ _ _ _ hfl2.ok)
  clear hor hfl2
  replace hm := hm.got hbl hown
  clear hown
  simp only [List.nil_append, List.cons_append] at hm
  go_wp2_with (first | go_skip | ((with_reducible show wpList _ _ _ _ _ (World.alloc _ _)); refine wpList_up hm ?_; clear hm; intro n w hn hn2 hk hm hd hd2 ho; (try rw [← hn]); replace hn := Nat.le_of_eq hn.symm) | ((first | ((with_reducible show wpList _ _ _ (Oper.mk _ (Op.box _ _) _ _ _ _ :: _) _ _); (refine bxA hm ?_; clear hm; intro n w hn hz hm ho; (try simp only [List.cons_append, List.nil_append] at hm))) | ((with_reducible show wpList _ _ _ (Oper.mk _ (Op.load _ _) _ _ _ _ :: _) _ _); first | (refine ldA hm ?_) | (refine laA hm ?_)) | ((with_reducible show wpList _ _ _ (Oper.mk _ (Op.store _ _ _) _ _ _ _ :: _) _ _); (refine stA hm ?_; clear hm; intro w hz hm ho)) | ((with_reducible show wpList _ _ _ (Oper.mk _ (Op.alloc _) _ _ _ _ :: _) _ _); (refine alA hm ?_; clear hm; intro n w hn hz hm ho; (try simp only [List.cons_append, List.nil_append] at hm)))); try simp only [Act.put, sxQ]))
  obtain ⟨m, hmm⟩ : ∃ m : Nat, m = z + 8 := ⟨_, rfl⟩
  have HMM := Lib.hid hmm
  clear hmm
  have HCL8 := Lib.hid (Sec.cmac_length { s with cnt := s.cnt + 1, exp := true, shut := false } cla4 ins p1 p2 le (Sec.hide { s with cnt := s.cnt + 1, exp := true, shut := false } false b) { enc := HOK.out.enc, mac := HOK.out.mac, rmac := HOK.out.rmac, dat := HOK.out.dat, lvl := HOK.out.lvl, chain := HOK.out.chain })
  have hm2 := hm.row hk hn2 hd hd2 1 2 [.slice A5 z c5, .slice A6 8 c6] rfl rfl (by unfold maxLen; omega)
  clear hm hd hd2
  go_at_call 39
  refine (join_list n [⟨A5, z, c5, Sec.hide { s with cnt := s.cnt + 1, exp := true, shut := false } false b⟩, ⟨A6, 8, c6, Sec.cmac { s with cnt := s.cnt + 1, exp := true, shut := false } cla4 ins p1 p2 le (Sec.hide { s with cnt := s.cnt + 1, exp := true, shut := false } false b)⟩] 2 m rfl _ (by exact (hm2.sl_ 2 rfl).row) (by
    intro v hv
    simp only [List.mem_cons, List.not_mem_nil, or_false] at hv
    rcases hv with rfl | rfl
    · exact (hm2.sl_ 0 rfl).byt (Nat.le_refl _)
    · exact (hm2.sl_ 1 rfl).byt (Nat.le_refl _)) (by simp [joined, HCL8.out, HMM.out, HHL.out, HZZ.out]) (by have := HSZ.out; have := HMM.out; omega) (by omega)).mono ?_
  rintro e w7 ⟨A7, c7, rfl, hown, hbl⟩
  rw [show joined [⟨A5, z, c5, Sec.hide { s with cnt := s.cnt + 1, exp := true, shut := false } false b⟩, ⟨A6, 8, c6, Sec.cmac { s with cnt := s.cnt + 1, exp := true, shut := false } cla4 ins p1 p2 le (Sec.hide { s with cnt := s.cnt + 1, exp := true, shut := false } false b)⟩] = Sec.hide { s with cnt := s.cnt + 1, exp := true, shut := false } false b ++ Sec.cmac { s with cnt := s.cnt + 1, exp := true, shut := false } cla4 ins p1 p2 le (Sec.hide { s with cnt := s.cnt + 1, exp := true, shut := false } false b) by simp [joined]] at hown
  have hm := hm2.less.got hbl hown
  clear hown hm2 hk
  simp only [List.nil_append, List.cons_append] at hm
  cases long with
  | false =>
    go_wp2_with (first | go_skip | ((with_reducible show wpList _ _ _ _ _ (World.alloc _ _)); refine wpList_up hm ?_; clear hm; intro n w hn hn2 hk hm hd hd2 ho; (try rw [← hn]); replace hn := Nat.le_of_eq hn.symm) | ((first | ((with_reducible show wpList _ _ _ (Oper.mk _ (Op.box _ _) _ _ _ _ :: _) _ _); (refine bxA hm ?_; clear hm; intro n w hn hz hm ho; (try simp only [List.cons_append, List.nil_append] at hm))) | ((with_reducible show wpList _ _ _ (Oper.mk _ (Op.load _ _) _ _ _ _ :: _) _ _); first | (refine ldA hm ?_) | (refine laA hm ?_)) | ((with_reducible show wpList _ _ _ (Oper.mk _ (Op.store _ _ _) _ _ _ _ :: _) _ _); (refine stA hm ?_; clear hm; intro w hz hm ho)) | ((with_reducible show wpList _ _ _ (Oper.mk _ (Op.alloc _) _ _ _ _ :: _) _ _); (refine alA hm ?_; clear hm; intro n w hn hz hm ho; (try simp only [List.cons_append, List.nil_append] at hm)))); try simp only [Act.put, sxQ]))
    refine bodyPost_ret (results_row_tmp rfl _ _ _ 28 _ (0, 0) _ rfl (by exact hm.at_ 2 rfl) Tryz.underlying28 rfl (by kernel_rfl)) rfl ?_
    have hon := hm.only
    have hfo := far_of hm 0 1 rfl rfl (by omega)
    have hfl := HA.out.chained hon (cnt := s.cnt + 1) (exp := true) (shut := false) (C := A6) (cc := c6) (F' := fun q => F q ∨ ∃ a, A6 = some a ∧ q = a.block) (m := Sec.cmac { s with cnt := s.cnt + 1, exp := true, shut := false } cla4 ins p1 p2 le (Sec.hide { s with cnt := s.cnt + 1, exp := true, shut := false } false b)) (fun q hq => .inl hq) (by
      rintro q (hq | ⟨a, ha, rfl⟩)
      · exact Nat.lt_of_lt_of_le (HLT.out q hq) hon.size
      · exact (hfo a ha).2.1) HCL8.out ⟨(hm.sl_ 1 rfl).byt (Nat.le_refl _), fun a ha => ⟨.inr ⟨a, ha, rfl⟩, (hfo a ha).1⟩⟩ (by exact hm.at_ 0 rfl)
    rw [S_eq HS.out] at hfl
    have hown := hm.freshG 0 2 rfl rfl
    have h4 := HG4.out
    subst h4
    refine WrRes.mac HW.out H1.out HWD.out rfl (by simp [Sec.cmac_length s _ _ _ _ _ _ HOK.out, HMM.out, HHL.out, HZZ.out]) hown ⟨_, hfl⟩ (hon.mono fun q _ e => by rw [e]; exact HA.out.fg) (by
      rintro q (hq | ⟨a, ha, rfl⟩)
      · exact .inl hq
      · exact .inr (hfo a ha).2.2) (by
      rintro q (hq | ⟨a, ha, rfl⟩) e
      · have := HLT.out q hq; have := (hown.lt q e).1; omega
      · exact far_two hm 1 2 (by decide) rfl rfl (by omega) ha e) (by first | rfl | (simp; omega) | simp)
  | true =>
    go_wp2_with (first | go_skip | ((with_reducible show wpList _ _ _ _ _ (World.alloc _ _)); refine wpList_up hm ?_; clear hm; intro n w hn hn2 hk hm hd hd2 ho; (try rw [← hn]); replace hn := Nat.le_of_eq hn.symm) | ((first | ((with_reducible show wpList _ _ _ (Oper.mk _ (Op.box _ _) _ _ _ _ :: _) _ _); (refine bxA hm ?_; clear hm; intro n w hn hz hm ho; (try simp only [List.cons_append, List.nil_append] at hm))) | ((with_reducible show wpList _ _ _ (Oper.mk _ (Op.load _ _) _ _ _ _ :: _) _ _); first | (refine ldA hm ?_) | (refine laA hm ?_)) | ((with_reducible show wpList _ _ _ (Oper.mk _ (Op.store _ _ _) _ _ _ _ :: _) _ _); (refine stA hm ?_; clear hm; intro w hz hm ho)) | ((with_reducible show wpList _ _ _ (Oper.mk _ (Op.alloc _) _ _ _ _ :: _) _ _); (refine alA hm ?_; clear hm; intro n w hn hz hm ho; (try simp only [List.cons_append, List.nil_append] at hm)))); try simp only [Act.put, sxQ]))
    refine bodyPost_ret (results_row_tmp rfl _ _ _ 28 _ (0, 0) _ rfl (by exact hm.at_ 2 rfl) Tryz.underlying28 rfl (by kernel_rfl)) rfl ?_
    have hon := hm.only
    have hfo := far_of hm 0 1 rfl rfl (by omega)
    have hfl := HA.out.chained hon (cnt := s.cnt + 1) (exp := true) (shut := false) (C := A6) (cc := c6) (F' := fun q => F q ∨ ∃ a, A6 = some a ∧ q = a.block) (m := Sec.cmac { s with cnt := s.cnt + 1, exp := true, shut := false } cla4 ins p1 p2 le (Sec.hide { s with cnt := s.cnt + 1, exp := true, shut := false } false b)) (fun q hq => .inl hq) (by
      rintro q (hq | ⟨a, ha, rfl⟩)
      · exact Nat.lt_of_lt_of_le (HLT.out q hq) hon.size
      · exact (hfo a ha).2.1) HCL8.out ⟨(hm.sl_ 1 rfl).byt (Nat.le_refl _), fun a ha => ⟨.inr ⟨a, ha, rfl⟩, (hfo a ha).1⟩⟩ (by exact hm.at_ 0 rfl)
    rw [S_eq HS.out] at hfl
    have hown := hm.freshG 0 2 rfl rfl
    have h4 := HG4.out
    subst h4
    refine WrRes.mac HW.out H1.out HWD.out rfl (by simp [Sec.cmac_length s _ _ _ _ _ _ HOK.out, HMM.out, HHL.out, HZZ.out]) hown ⟨_, hfl⟩ (hon.mono fun q _ e => by rw [e]; exact HA.out.fg) (by
      rintro q (hq | ⟨a, ha, rfl⟩)
      · exact .inl hq
      · exact .inr (hfo a ha).2.2) (by
      rintro q (hq | ⟨a, ha, rfl⟩) e
      · have := HLT.out q hq; have := (hown.lt q e).1; omega
      · exact far_two hm 1 2 (by decide) rfl rfl (by omega) ha e) (by first | rfl | (simp; omega) | simp)
end Go.Proofs.YtibaibdgpnkdnaaGreatDoor
