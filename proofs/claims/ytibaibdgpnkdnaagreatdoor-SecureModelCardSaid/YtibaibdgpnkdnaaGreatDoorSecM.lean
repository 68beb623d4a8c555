/-
  The walks of the channel's MACs.
-/
import Derived.Test.YtibaibdgpnkdnaaGreatDoorZ1
import Derived.Test.YtibaibdgpnkdnaaGreatDoorSecE
import Derived.Test.YtibaibdgpnkdnaaGreatDoorZ2
import Derived.Test.YtibaibdgpnkdnaaGreatDoorZ0
namespace Go.Proofs.YtibaibdgpnkdnaaGreatDoor
set_option maxRecDepth 100000
set_option linter.unusedSimpArgs false
set_option linter.unusedVariables false
open Go.RowKit
set_option maxHeartbeats 8000000

theorem by8_nat (n : Nat) : Sec.by8 (n : Int) = UInt8.ofNat n := by
  unfold Sec.by8
  apply UInt8.toNat_inj.1
  simp
  omega
theorem three_put (n : Nat) : Sec.three (n : Int) = Oct.putB n 3 := by
  have e1 : (n : Int) / 65536 = ((n / 65536 : Nat) : Int) := by omega
  have e2 : (n : Int) / 256 = ((n / 256 : Nat) : Int) := by omega
  unfold Sec.three
  rw [e1, e2, by8_nat, by8_nat, by8_nat]
  simp [Oct.putB, List.range_succ]
theorem put_three (n : Nat) (hn : n < 16777216) (w : World) : Calls Tryz.prog 61 #[.int .i64 (n : Int), .int .i64 3] w fun e w' => ∃ A c, e = .returned (.tuple #[.slice A 3 c, .int .i64 0]) ∧ Own w' w.heap.size 5 1 A 3 c (bcells (Sec.three (n : Int))) ∧ Below w.heap.size w w' := by
  obtain ⟨e1, e2⟩ := pt_ok n 3 (by omega) (by omega) (by omega)
  refine (octets_Put (n : Int) 3 w (by omega)).mono ?_
  rintro e w' ⟨A, c, rfl, ho, hb⟩
  rw [show ((3 : Int)) = ((3 : Nat) : Int) from rfl, e1] at ho
  rw [show ((3 : Int)) = ((3 : Nat) : Int) from rfl, e1, e2]
  rw [← three_put] at ho ⊢
  exact ⟨A, c, rfl, ho, hb⟩
theorem mac_call (A A' A'' : Option Addr) (n c c' c'' : Nat) (key iv d : List UInt8) (u : World) (hk : Byt u u.heap.size A 16 c key) (hv : Byt u u.heap.size A' 8 c' iv) (hd : Byt u u.heap.size A'' n c'' d) (hn : n ≤ 100000) :
    Calls Tryz.prog 62 #[.slice A 16 c, .slice A' 8 c', .slice A'' n c''] u fun e u' => ∃ A1 c1, e = .returned (.tuple #[.slice A1 8 c1, .int .i64 0]) ∧ Own u' u.heap.size 5 1 A1 8 c1 (bcells (Mod.mcB key iv d)) ∧ Below u.heap.size u u' := by
  have hl := Mod.mcB_length key iv d ⟨hk.1, hv.1⟩
  refine (mode_MAC A A' A'' 16 8 n c c' c'' key iv d u hk hv hd hn).mono ?_
  rintro e u' ⟨A1, c1, rfl, ho, hb⟩
  rw [hl] at *
  refine ⟨A1, c1, ?_, ho, hb⟩
  unfold Mod.mcE
  rw [if_pos ⟨hk.1, hv.1⟩]
theorem wrap_by8 (z : Int) : IntKind.u8.wrap z = ((Sec.by8 z).toNat : Int) := by
  have : IntKind.u8.wrap z = z % 256 := rfl
  rw [this]
  unfold Sec.by8
  simp
  omega
theorem join_list (q : Nat) (vs : List SV) (k m : Nat) (hk : vs.length = k) (u : World) (hr : Row u u.heap.size (some ⟨q, 0, none⟩) (vs.map SV.val)) (hv : ∀ v ∈ vs, Byt u u.heap.size v.a v.n v.c v.bs) (hm : (joined vs).length = m) (hl : m ≤ 1000000) (hk2 : k ≤ 1000) :
    Calls Tryz.prog 39 #[.slice (some ⟨q, 0, none⟩) k k] u fun e u' => ∃ A c, e = .returned (.slice A m c) ∧ Own u' u.heap.size 5 1 A m c (bcells (joined vs)) ∧ Below u.heap.size u u' := by
  refine (octets_Join (some ⟨q, 0, none⟩) k k vs u ⟨hr, hv⟩ hk (by omega) (by omega)).mono ?_
  rintro e u' ⟨A, c, rfl, ho, hb⟩
  rw [hm] at *
  exact ⟨A, c, rfl, ho, hb⟩
set_option maxRecDepth 100000 in
theorem ch_rmac (w0 : World) (g : Nat) (F : Nat → Prop) (s : Sec.S) (H : ChAt' w0 g F s) (A : Option Addr) (dn c : Nat) (bs : List UInt8) (h : Byt w0 w0.heap.size A dn c bs) (hdn : dn ≤ 90000) (sw : Int) (hsw : 0 ≤ sw ∧ sw ≤ 65535) :
    Calls Tryz.prog 53 #[.pointer (some ⟨g, 0, none⟩), .slice A dn c, .int .i64 sw] w0 (ORes w0 (Sec.rmc s bs sw)) := by
  obtain ⟨a, H⟩ := H
  have HK := Lib.hid H.blk
  have hm : Mem (fun q => q = g) w0 w0 [⟨g, _, _⟩] [] := Mem.one H.blk rfl
  have HR := Lib.hid H.rmac.1
  have HC := Lib.hid H.chain.1
  have HB := Lib.hid h
  have HL := Lib.hid (Sec.rmc_length s bs sw H.ok)
  have HBL := Lib.hid h.1
  clear H h
  obtain ⟨E, ce, M, cm, R, cr, a6, a7, C, cc⟩ := a
  simp only [cch] at hm HK
  go_enter Tryz.func53, Tryz.ntmps53
  go_wp2_with (first | go_skip | ((with_reducible show wpList _ _ _ _ _ (World.alloc _ _)); refine wpList_up hm ?_; clear hm; intro n w hn hn2 hk hm hd hd2 ho; (try rw [← hn]); replace hn := Nat.le_of_eq hn.symm) | ((first | ((with_reducible show wpList _ _ _ (Oper.mk _ (Op.box _ _) _ _ _ _ :: _) _ _); (refine bxA hm ?_; clear hm; intro n w hn hz hm ho; (try simp only [List.cons_append, List.nil_append] at hm))) | ((with_reducible show wpList _ _ _ (Oper.mk _ (Op.load _ _) _ _ _ _ :: _) _ _); first | (refine ldA hm ?_) | (refine laA hm ?_)) | ((with_reducible show wpList _ _ _ (Oper.mk _ (Op.store _ _ _) _ _ _ _ :: _) _ _); (refine stA hm ?_; clear hm; intro w hz hm ho)) | ((with_reducible show wpList _ _ _ (Oper.mk _ (Op.alloc _) _ _ _ _ :: _) _ _); (refine alA hm ?_; clear hm; intro n w hn hz hm ho; (try simp only [List.cons_append, List.nil_append] at hm)))); try simp only [Act.put, sxQ]))
  refine wp_region_noPanic ?_
  refine wp_region_held_drew (S := MemS _ _ _ _) (by kernel_rfl) (MemS.of hm.drew) (fun hHeld => ?_)
  refine wpAnyH_fresh (by repeat (first | apply Fresh.a | apply Fresh.b)) ?_
  replace hm := hm.drew
  iterate 15 (first | (refine takeN 0 hHeld ?_) | (refine takeY 0 ?_ hHeld ?_ ?_; rotate_left 1; (first | (intro w9 h9; (with_reducible show (execOp _ (Oper.mk _ (Op.load _ _) _ _ _ _)).run _ _ = _); first | exact h9.ldA) | focus (intro w9 hSw; go_simp; (try (with_reducible rfl)); done))); try simp only [Act.put, sxQ])
  refine wpAnyH_ready (rs := [15]) (by kernel_rfl) (by simp) ?_
  refine AllReadyH.cons2 (by simp only [sxN]; first | done | exact rfl) (fun K hK => ?_)
  rw [if_pos (by rfl)]
  go_simp
  refine K_up hm ?_
  intro n5 w5 hn hn5s hn5 hm1 hn5d hn5d2 hb1
  first | rw [← hn] | rw [← (show n5 = w.heap.size from hn)] | rw [← (show n5 = w0.heap.size from hn)]
  rw [wrap_by8, wrap_by8] at hn5
  clear hn hm
  have hm := hm1.row hn5 hn5s hn5d hn5d2 1 2 (bcells [Sec.by8 (sw / 256), Sec.by8 sw]) rfl rfl (by unfold maxLen; omega)
  clear hm1
  refine hK.out _ _ (MemS.of hm.less) (fun hHeld => ?_)
  clear hK K
  try simp only [Act.put, sxQ]
  refine wpAnyH_ready (rs := [16]) (by kernel_rfl) (by simp) ?_
  refine AllReadyH.cons2 (by simp only [sxN]; first | done | exact rfl) (fun K hK => ?_)
  rw [if_pos (by rfl)]
  go_simp
  refine K_up hm ?_
  intro n6 w6 hn hn6s hn6 hm1 hn6d hn6d2 hb2
  first | rw [← hn] | rw [← (show n6 = w5.heap.size from hn)]
  clear hn hm
  have hm := hm1.row hn6 hn6s hn6d hn6d2 1 2 [.slice A dn c, .slice (some ⟨n5, 0, none⟩) 2 2] rfl rfl (by unfold maxLen; omega)
  clear hm1
  refine hK.out _ _ (MemS.of hm.less.less) (fun hHeld => ?_)
  clear hK K
  try simp only [Act.put, sxQ]
  refine wpAnyH_ready (rs := [17]) (by kernel_rfl) (by simp) ?_
  refine AllReadyH.cons2 (by simp only [sxN]; first | done | exact rfl) (fun K hK => ?_)
  rw [if_pos (by rfl)]
  go_simp
  refine (join_list n6 [⟨A, dn, c, bs⟩, ⟨some ⟨n5, 0, none⟩, 2, 2, [Sec.by8 (sw / 256), Sec.by8 sw]⟩] 2 (dn + 2) rfl _ (by exact (hm.sl_ 1 rfl).row) (by
    intro v hv
    simp only [List.mem_cons, List.not_mem_nil, or_false] at hv
    rcases hv with rfl | rfl
    · exact (HB.out.below (hm.still 0 rfl HK.out)).more hm.only.size
    · exact (hm.sl_ 0 rfl).byt (Nat.le_refl _)) (by simp [joined, HBL.out]) (by omega) (by omega)).mono ?_
  rintro e w7 ⟨A7, c7, rfl, hown, hbl7⟩
  replace hm := hm.got hbl7 hown
  clear hown
  go_simp
  refine hK.out _ _ (MemS.of hm.less.less.less) (fun hHeld => ?_)
  clear hK K
  try simp only [Act.put, sxQ]
  refine wpAnyH_ready (rs := [18]) (by kernel_rfl) (by simp) ?_
  refine AllReadyH.cons2 (by simp only [sxN]; first | done | exact rfl) (fun K hK => ?_)
  rw [if_pos (by rfl)]
  go_simp
  refine (mac_call R C A7 (dn + 2) cr cc c7 s.rmac s.chain (joined [⟨A, dn, c, bs⟩, ⟨some ⟨n5, 0, none⟩, 2, 2, [Sec.by8 (sw / 256), Sec.by8 sw]⟩]) _ (by exact (HR.out.below (hm.still 0 rfl HK.out)).more hm.only.size) (by exact (HC.out.below (hm.still 0 rfl HK.out)).more hm.only.size) (by exact (hm.sl_ 2 rfl).byt (Nat.le_refl _)) (by omega)).mono ?_
  rintro e w8 ⟨A8, c8, rfl, hown, hbl8⟩
  replace hm := hm.got hbl8 hown
  clear hown
  go_simp
  refine hK.out _ _ (MemS.of hm.less.less.less.less) (fun hHeld => ?_)
  clear hK K
  try simp only [Act.put, sxQ]
  iterate 5 (first | (refine takeN 19 hHeld ?_) | (refine takeY 19 ?_ hHeld ?_ ?_; rotate_left 1; (first | (intro w9 h9; (with_reducible show (execOp _ (Oper.mk _ (Op.load _ _) _ _ _ _)).run _ _ = _); first | exact h9.ldA) | focus (intro w9 hSw; go_simp; (try (with_reducible rfl)); done))); try simp only [Act.put, sxQ])
  refine wpAnyH_done (by kernel_rfl) ?_ _
  refine NoPanic.normal ?_
  go_wp2_with (first | go_skip | ((with_reducible show wpList _ _ _ _ _ (World.alloc _ _)); refine wpList_up hm ?_; clear hm; intro n w hn hn2 hk hm hd hd2 ho; (try rw [← hn]); replace hn := Nat.le_of_eq hn.symm) | ((first | ((with_reducible show wpList _ _ _ (Oper.mk _ (Op.box _ _) _ _ _ _ :: _) _ _); (refine bxA hm ?_; clear hm; intro n w hn hz hm ho; (try simp only [List.cons_append, List.nil_append] at hm))) | ((with_reducible show wpList _ _ _ (Oper.mk _ (Op.load _ _) _ _ _ _ :: _) _ _); first | (refine ldA hm ?_) | (refine laA hm ?_)) | ((with_reducible show wpList _ _ _ (Oper.mk _ (Op.store _ _ _) _ _ _ _ :: _) _ _); (refine stA hm ?_; clear hm; intro w hz hm ho)) | ((with_reducible show wpList _ _ _ (Oper.mk _ (Op.alloc _) _ _ _ _ :: _) _ _); (refine alA hm ?_; clear hm; intro n w hn hz hm ho; (try simp only [List.cons_append, List.nil_append] at hm)))); try simp only [Act.put, sxQ]))
  go_ret
  have he : Sec.rmc s bs sw = Mod.mcB s.rmac s.chain (joined [⟨A, dn, c, bs⟩, ⟨some ⟨n5, 0, none⟩, 2, 2, [Sec.by8 (sw / 256), Sec.by8 sw]⟩]) := by simp [Sec.rmc, joined]
  rw [he]
  exact ORes.of (by rw [← he]; exact HL.out) (hm.freshG 0 3 rfl rfl) (hm.still 0 rfl HK.out)
set_option maxRecDepth 100000 in
theorem ch_cmac (w0 : World) (g : Nat) (F : Nat → Prop) (s : Sec.S) (H : ChAt' w0 g F s) (cla ins p1 p2 : Int) (Ax : Option Addr) (nx cx : Nat) (le : Int) (long : Bool) (hle : 0 ≤ le ∧ le ≤ 65536) (A : Option Addr) (dn c : Nat) (bs : List UInt8) (h : Byt w0 w0.heap.size A dn c bs) (hdn : dn ≤ 90000) :
    Calls Tryz.prog 38 #[.pointer (some ⟨g, 0, none⟩), cmdV cla ins p1 p2 Ax nx cx le long, .slice A dn c] w0 (ORes w0 (Sec.cmac s cla ins p1 p2 le bs)) := by
  obtain ⟨a, H⟩ := H
  have HK := Lib.hid H.blk
  have hm : Mem (fun q => q = g) w0 w0 [⟨g, _, _⟩] [] := Mem.one H.blk rfl
  have HR := Lib.hid H.mac.1
  have HC := Lib.hid H.chain.1
  have HB := Lib.hid h
  have HL := Lib.hid (Sec.cmac_length s cla ins p1 p2 le bs H.ok)
  have HBL := Lib.hid h.1
  have hp1 := put_three (dn + 8) (by omega)
  have e8 : ((dn + 8 : Nat) : Int) = (dn : Int) + 8 := by omega
  rw [e8] at hp1
  clear e8
  obtain ⟨len, rfl⟩ : ∃ k : Nat, le = k := ⟨le.toNat, by omega⟩
  have hp2 := put_three len (by omega)
  have HP1 := Lib.hid hp1
  have HP2 := Lib.hid hp2
  clear H h hp1 hp2 hle
  obtain ⟨E, ce, M, cm, R, cr, a6, a7, C, cc⟩ := a
  simp only [cch] at hm HK
  unfold cmdV
  generalize (len : Int) = lei at *
  go_enter Tryz.func38, Tryz.ntmps38
  go_wp2_with (first | go_skip | ((with_reducible show wpList _ _ _ _ _ (World.alloc _ _)); refine wpList_up hm ?_; clear hm; intro n w hn hn2 hk hm hd hd2 ho; (try rw [← hn]); replace hn := Nat.le_of_eq hn.symm) | ((first | ((with_reducible show wpList _ _ _ (Oper.mk _ (Op.box _ _) _ _ _ _ :: _) _ _); (refine bxA hm ?_; clear hm; intro n w hn hz hm ho; (try simp only [List.cons_append, List.nil_append] at hm))) | ((with_reducible show wpList _ _ _ (Oper.mk _ (Op.load _ _) _ _ _ _ :: _) _ _); first | (refine ldA hm ?_) | (refine laA hm ?_)) | ((with_reducible show wpList _ _ _ (Oper.mk _ (Op.store _ _ _) _ _ _ _ :: _) _ _); (refine stA hm ?_; clear hm; intro w hz hm ho)) | ((with_reducible show wpList _ _ _ (Oper.mk _ (Op.alloc _) _ _ _ _ :: _) _ _); (refine alA hm ?_; clear hm; intro n w hn hz hm ho; (try simp only [List.cons_append, List.nil_append] at hm)))); try simp only [Act.put, sxQ]))
  go_at_call 61
  refine (HP1.out _).mono ?_
  rintro e w2 ⟨A2, c2, rfl, hown, hbl⟩
  replace hm := hm.got hbl hown
  clear hown
  go_wp2_with (first | go_skip | ((with_reducible show wpList _ _ _ _ _ (World.alloc _ _)); refine wpList_up hm ?_; clear hm; intro n w hn hn2 hk hm hd hd2 ho; (try rw [← hn]); replace hn := Nat.le_of_eq hn.symm) | ((first | ((with_reducible show wpList _ _ _ (Oper.mk _ (Op.box _ _) _ _ _ _ :: _) _ _); (refine bxA hm ?_; clear hm; intro n w hn hz hm ho; (try simp only [List.cons_append, List.nil_append] at hm))) | ((with_reducible show wpList _ _ _ (Oper.mk _ (Op.load _ _) _ _ _ _ :: _) _ _); first | (refine ldA hm ?_) | (refine laA hm ?_)) | ((with_reducible show wpList _ _ _ (Oper.mk _ (Op.store _ _ _) _ _ _ _ :: _) _ _); (refine stA hm ?_; clear hm; intro w hz hm ho)) | ((with_reducible show wpList _ _ _ (Oper.mk _ (Op.alloc _) _ _ _ _ :: _) _ _); (refine alA hm ?_; clear hm; intro n w hn hz hm ho; (try simp only [List.cons_append, List.nil_append] at hm)))); try simp only [Act.put, sxQ]))
  go_at_call 61
  refine (HP2.out _).mono ?_
  rintro e w3 ⟨A3, c3, rfl, hown, hbl3⟩
  replace hm := hm.got hbl3 hown
  clear hown
  simp only [List.nil_append, List.cons_append] at hm
  go_wp2_with (first | go_skip | ((with_reducible show wpList _ _ _ _ _ (World.alloc _ _)); refine wpList_up hm ?_; clear hm; intro n w hn hn2 hk hm hd hd2 ho; (try rw [← hn]); replace hn := Nat.le_of_eq hn.symm) | ((first | ((with_reducible show wpList _ _ _ (Oper.mk _ (Op.box _ _) _ _ _ _ :: _) _ _); (refine bxA hm ?_; clear hm; intro n w hn hz hm ho; (try simp only [List.cons_append, List.nil_append] at hm))) | ((with_reducible show wpList _ _ _ (Oper.mk _ (Op.load _ _) _ _ _ _ :: _) _ _); first | (refine ldA hm ?_) | (refine laA hm ?_)) | ((with_reducible show wpList _ _ _ (Oper.mk _ (Op.store _ _ _) _ _ _ _ :: _) _ _); (refine stA hm ?_; clear hm; intro w hz hm ho)) | ((with_reducible show wpList _ _ _ (Oper.mk _ (Op.alloc _) _ _ _ _ :: _) _ _); (refine alA hm ?_; clear hm; intro n w hn hz hm ho; (try simp only [List.cons_append, List.nil_append] at hm)))); try simp only [Act.put, sxQ]))
  refine wp_region_noPanic ?_
  refine wp_region_held_drew (S := MemS _ _ _ _) (by kernel_rfl) (MemS.of hm.drew) (fun hHeld => ?_)
  refine wpAnyH_fresh (by repeat (first | apply Fresh.a | apply Fresh.b)) ?_
  replace hm := hm.drew
  iterate 21 (first | (refine takeN 0 hHeld ?_) | (refine takeY 0 ?_ hHeld ?_ ?_; rotate_left 1; (first | (intro w9 h9; (with_reducible show (execOp _ (Oper.mk _ (Op.load _ _) _ _ _ _)).run _ _ = _); first | exact h9.ldA) | focus (intro w9 hSw; go_simp; (try (with_reducible rfl)); done))); try simp only [Act.put, sxQ])
  iterate 3 (first | (refine takeN 22 hHeld ?_) | (refine takeY 22 ?_ hHeld ?_ ?_; rotate_left 1; (first | (intro w9 h9; (with_reducible show (execOp _ (Oper.mk _ (Op.load _ _) _ _ _ _)).run _ _ = _); first | exact h9.ldA) | focus (intro w9 hSw; go_simp; (try (with_reducible rfl)); done))); try simp only [Act.put, sxQ])
  refine wpAnyH_ready (rs := [21]) (by kernel_rfl) (by simp) ?_
  refine AllReadyH.cons2 (by simp only [sxN]; first | done | exact rfl) (fun K hK => ?_)
  rw [if_pos (by rfl)]
  go_simp
  refine K_up hm ?_
  intro n5 w5 hn hn5s hn5 hm1 hn5d hn5d2 hb1
  first | rw [← hn] | rw [← (show n5 = w3.heap.size from hn)] | rw [← (show n5 = w.heap.size from hn)]
  rw [wrap_by8, wrap_by8, wrap_by8, wrap_by8] at hn5
  clear hn hm
  have hm := hm1.row hn5 hn5s hn5d hn5d2 1 4 (bcells [Sec.by8 cla, Sec.by8 ins, Sec.by8 p1, Sec.by8 p2]) rfl rfl (by unfold maxLen; omega)
  clear hm1
  refine hK.out _ _ (MemS.of hm.less) (fun hHeld => ?_)
  clear hK K
  try simp only [Act.put, sxQ]
  refine wpAnyH_ready (rs := [25]) (by kernel_rfl) (by simp) ?_
  refine AllReadyH.cons2 (by simp only [sxN]; first | done | exact rfl) (fun K hK => ?_)
  rw [if_pos (by rfl)]
  go_simp
  refine K_up hm ?_
  intro n6 w6 hn hn6s hn6 hm1 hn6d hn6d2 hb2
  first | rw [← hn] | rw [← (show n6 = w5.heap.size from hn)]
  clear hn hm
  have hm := hm1.row hn6 hn6s hn6d hn6d2 1 4 [.slice (some ⟨n5, 0, none⟩) 4 4, .slice A2 3 c2, .slice A3 3 c3, .slice A dn c] rfl rfl (by unfold maxLen; omega)
  clear hm1
  refine hK.out _ _ (MemS.of hm.less.less) (fun hHeld => ?_)
  clear hK K
  try simp only [Act.put, sxQ]
  refine wpAnyH_ready (rs := [26]) (by kernel_rfl) (by simp) ?_
  refine AllReadyH.cons2 (by simp only [sxN]; first | done | exact rfl) (fun K hK => ?_)
  rw [if_pos (by rfl)]
  go_simp
  refine (join_list n6 [⟨some ⟨n5, 0, none⟩, 4, 4, [Sec.by8 cla, Sec.by8 ins, Sec.by8 p1, Sec.by8 p2]⟩, ⟨A2, 3, c2, Sec.three ((dn : Int) + 8)⟩, ⟨A3, 3, c3, Sec.three lei⟩, ⟨A, dn, c, bs⟩] 4 (dn + 10) rfl _ (by exact (hm.sl_ 3 rfl).row) (by
    intro v hv
    simp only [List.mem_cons, List.not_mem_nil, or_false] at hv
    rcases hv with rfl | rfl | rfl | rfl
    · exact (hm.sl_ 2 rfl).byt (Nat.le_refl _)
    · exact (hm.sl_ 0 rfl).byt (Nat.le_refl _)
    · exact (hm.sl_ 1 rfl).byt (Nat.le_refl _)
    · exact (HB.out.below (hm.still 0 rfl HK.out)).more hm.only.size) (by simp [joined, HBL.out, Sec.three]) (by omega) (by omega)).mono ?_
  rintro e w7 ⟨A7, c7, rfl, hown, hbl7⟩
  replace hm := hm.got hbl7 hown
  clear hown
  go_simp
  refine hK.out _ _ (MemS.of hm.less.less.less) (fun hHeld => ?_)
  clear hK K
  try simp only [Act.put, sxQ]
  refine wpAnyH_ready (rs := [27]) (by kernel_rfl) (by simp) ?_
  refine AllReadyH.cons2 (by simp only [sxN]; first | done | exact rfl) (fun K hK => ?_)
  rw [if_pos (by rfl)]
  go_simp
  refine (mac_call M C A7 (dn + 10) cm cc c7 s.mac s.chain (joined [⟨some ⟨n5, 0, none⟩, 4, 4, [Sec.by8 cla, Sec.by8 ins, Sec.by8 p1, Sec.by8 p2]⟩, ⟨A2, 3, c2, Sec.three ((dn : Int) + 8)⟩, ⟨A3, 3, c3, Sec.three lei⟩, ⟨A, dn, c, bs⟩]) _ (by exact (HR.out.below (hm.still 0 rfl HK.out)).more hm.only.size) (by exact (HC.out.below (hm.still 0 rfl HK.out)).more hm.only.size) (by exact (hm.sl_ 4 rfl).byt (Nat.le_refl _)) (by omega)).mono ?_
  rintro e w8 ⟨A8, c8, rfl, hown, hbl8⟩
  replace hm := hm.got hbl8 hown
  clear hown
  go_simp
  refine hK.out _ _ (MemS.of hm.less.less.less.less) (fun hHeld => ?_)
  clear hK K
  try simp only [Act.put, sxQ]
  iterate 5 (first | (refine takeN 28 hHeld ?_) | (refine takeY 28 ?_ hHeld ?_ ?_; rotate_left 1; (first | (intro w9 h9; (with_reducible show (execOp _ (Oper.mk _ (Op.load _ _) _ _ _ _)).run _ _ = _); first | exact h9.ldA) | focus (intro w9 hSw; go_simp; (try (with_reducible rfl)); done))); try simp only [Act.put, sxQ])
  refine wpAnyH_done (by kernel_rfl) ?_ _
  refine NoPanic.normal ?_
  go_wp2_with (first | go_skip | ((with_reducible show wpList _ _ _ _ _ (World.alloc _ _)); refine wpList_up hm ?_; clear hm; intro n w hn hn2 hk hm hd hd2 ho; (try rw [← hn]); replace hn := Nat.le_of_eq hn.symm) | ((first | ((with_reducible show wpList _ _ _ (Oper.mk _ (Op.box _ _) _ _ _ _ :: _) _ _); (refine bxA hm ?_; clear hm; intro n w hn hz hm ho; (try simp only [List.cons_append, List.nil_append] at hm))) | ((with_reducible show wpList _ _ _ (Oper.mk _ (Op.load _ _) _ _ _ _ :: _) _ _); first | (refine ldA hm ?_) | (refine laA hm ?_)) | ((with_reducible show wpList _ _ _ (Oper.mk _ (Op.store _ _ _) _ _ _ _ :: _) _ _); (refine stA hm ?_; clear hm; intro w hz hm ho)) | ((with_reducible show wpList _ _ _ (Oper.mk _ (Op.alloc _) _ _ _ _ :: _) _ _); (refine alA hm ?_; clear hm; intro n w hn hz hm ho; (try simp only [List.cons_append, List.nil_append] at hm)))); try simp only [Act.put, sxQ]))
  go_ret
  have he : Sec.cmac s cla ins p1 p2 lei bs = Mod.mcB s.mac s.chain (joined [⟨some ⟨n5, 0, none⟩, 4, 4, [Sec.by8 cla, Sec.by8 ins, Sec.by8 p1, Sec.by8 p2]⟩, ⟨A2, 3, c2, Sec.three ((dn : Int) + 8)⟩, ⟨A3, 3, c3, Sec.three lei⟩, ⟨A, dn, c, bs⟩]) := by
    unfold Sec.cmac
    rw [HBL.out]
    simp [joined]
  rw [he]
  exact ORes.of (by rw [← he]; exact HL.out) (hm.freshG 0 5 rfl rfl) (hm.still 0 rfl HK.out)
end Go.Proofs.YtibaibdgpnkdnaaGreatDoor
