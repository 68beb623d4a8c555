/-
  The walk of New.
-/
import Derived.Test.YtibaibdgpnkdnaaGreatDoorZ1
import Derived.Test.YtibaibdgpnkdnaaGreatDoorSecD0
namespace Go.Proofs.YtibaibdgpnkdnaaGreatDoor
set_option maxRecDepth 100000
set_option linter.unusedSimpArgs false
set_option linter.unusedVariables false
open Go.RowKit
set_option maxHeartbeats 8000000
set_option maxRecDepth 100000 in
theorem new_len0 (w0 : World) (E M R D C : Option Addr) (ce cm cr cd cn cc n0 n1 n2 n3 : Nat) (lvl : Int) (s : Sec.S) (h : n0 ≠ 16) :
    Calls Tryz.prog 5 #[.agg #[.slice E n0 ce, .slice M n1 cm, .slice R n2 cr, .slice D n3 cd, .int .i64 lvl], .slice C cn cc] w0 (NewRes w0 false s) := by
  have i0 : ((n0 : Int) == 16) = false := by rw [beq_eq_false_iff_ne]; omega
  have hm := Mem.nil (fun _ => False) w0
  clear h
  go_enter Tryz.func5, Tryz.ntmps5
  go_wp2_with (first | go_skip | ((with_reducible show wpList _ _ _ _ _ (World.alloc _ _)); refine wpList_up hm ?_; clear hm; intro n w hn hn2 hk hm hd hd2 ho; (try rw [← hn]); replace hn := Nat.le_of_eq hn.symm) | ((first | ((with_reducible show wpList _ _ _ (Oper.mk _ (Op.box _ _) _ _ _ _ :: _) _ _); (refine bxA hm ?_; clear hm; intro n w hn hz hm ho; (try simp only [List.cons_append, List.nil_append] at hm))) | ((with_reducible show wpList _ _ _ (Oper.mk _ (Op.load _ _) _ _ _ _ :: _) _ _); first | (refine ldA hm ?_) | (refine laA hm ?_)) | ((with_reducible show wpList _ _ _ (Oper.mk _ (Op.store _ _ _) _ _ _ _ :: _) _ _); (refine stA hm ?_; clear hm; intro w hz hm ho)) | ((with_reducible show wpList _ _ _ (Oper.mk _ (Op.alloc _) _ _ _ _ :: _) _ _); (refine alA hm ?_; clear hm; intro n w hn hz hm ho; (try simp only [List.cons_append, List.nil_append] at hm)))); try simp only [Act.put, sxQ]))
  replace hm := hm.cons hk (.inr hn2) (fun e he e2 => hd e he e2.symm) hd2
  clear hk hd hd2
  refine wp_loop_rounds 5 ?_
  iterate 1
    rw [rounds_succ]
    go_wp2_with (first | go_skip | ((with_reducible show wpList _ _ _ _ _ (World.alloc _ _)); refine wpList_up hm ?_; clear hm; intro n w hn hn2 hk hm hd hd2 ho; (try rw [← hn]); replace hn := Nat.le_of_eq hn.symm) | ((first | ((with_reducible show wpList _ _ _ (Oper.mk _ (Op.box _ _) _ _ _ _ :: _) _ _); (refine bxA hm ?_; clear hm; intro n w hn hz hm ho; (try simp only [List.cons_append, List.nil_append] at hm))) | ((with_reducible show wpList _ _ _ (Oper.mk _ (Op.load _ _) _ _ _ _ :: _) _ _); first | (refine ldA hm ?_) | (refine laA hm ?_)) | ((with_reducible show wpList _ _ _ (Oper.mk _ (Op.store _ _ _) _ _ _ _ :: _) _ _); (refine stA hm ?_; clear hm; intro w hz hm ho)) | ((with_reducible show wpList _ _ _ (Oper.mk _ (Op.alloc _) _ _ _ _ :: _) _ _); (refine alA hm ?_; clear hm; intro n w hn hz hm ho; (try simp only [List.cons_append, List.nil_append] at hm)))); try simp only [Act.put, sxQ]))
  go_ret
  exact ⟨hm.low, .inl ⟨rfl, rfl⟩⟩
set_option maxRecDepth 100000 in
theorem new_len1 (w0 : World) (E M R D C : Option Addr) (ce cm cr cd cn cc n1 n2 n3 : Nat) (lvl : Int) (s : Sec.S) (h : n1 ≠ 16) :
    Calls Tryz.prog 5 #[.agg #[.slice E 16 ce, .slice M n1 cm, .slice R n2 cr, .slice D n3 cd, .int .i64 lvl], .slice C cn cc] w0 (NewRes w0 false s) := by
  have i0 : ((n1 : Int) == 16) = false := by rw [beq_eq_false_iff_ne]; omega
  have hm := Mem.nil (fun _ => False) w0
  clear h
  go_enter Tryz.func5, Tryz.ntmps5
  go_wp2_with (first | go_skip | ((with_reducible show wpList _ _ _ _ _ (World.alloc _ _)); refine wpList_up hm ?_; clear hm; intro n w hn hn2 hk hm hd hd2 ho; (try rw [← hn]); replace hn := Nat.le_of_eq hn.symm) | ((first | ((with_reducible show wpList _ _ _ (Oper.mk _ (Op.box _ _) _ _ _ _ :: _) _ _); (refine bxA hm ?_; clear hm; intro n w hn hz hm ho; (try simp only [List.cons_append, List.nil_append] at hm))) | ((with_reducible show wpList _ _ _ (Oper.mk _ (Op.load _ _) _ _ _ _ :: _) _ _); first | (refine ldA hm ?_) | (refine laA hm ?_)) | ((with_reducible show wpList _ _ _ (Oper.mk _ (Op.store _ _ _) _ _ _ _ :: _) _ _); (refine stA hm ?_; clear hm; intro w hz hm ho)) | ((with_reducible show wpList _ _ _ (Oper.mk _ (Op.alloc _) _ _ _ _ :: _) _ _); (refine alA hm ?_; clear hm; intro n w hn hz hm ho; (try simp only [List.cons_append, List.nil_append] at hm)))); try simp only [Act.put, sxQ]))
  replace hm := hm.cons hk (.inr hn2) (fun e he e2 => hd e he e2.symm) hd2
  clear hk hd hd2
  refine wp_loop_rounds 5 ?_
  iterate 2
    rw [rounds_succ]
    go_wp2_with (first | go_skip | ((with_reducible show wpList _ _ _ _ _ (World.alloc _ _)); refine wpList_up hm ?_; clear hm; intro n w hn hn2 hk hm hd hd2 ho; (try rw [← hn]); replace hn := Nat.le_of_eq hn.symm) | ((first | ((with_reducible show wpList _ _ _ (Oper.mk _ (Op.box _ _) _ _ _ _ :: _) _ _); (refine bxA hm ?_; clear hm; intro n w hn hz hm ho; (try simp only [List.cons_append, List.nil_append] at hm))) | ((with_reducible show wpList _ _ _ (Oper.mk _ (Op.load _ _) _ _ _ _ :: _) _ _); first | (refine ldA hm ?_) | (refine laA hm ?_)) | ((with_reducible show wpList _ _ _ (Oper.mk _ (Op.store _ _ _) _ _ _ _ :: _) _ _); (refine stA hm ?_; clear hm; intro w hz hm ho)) | ((with_reducible show wpList _ _ _ (Oper.mk _ (Op.alloc _) _ _ _ _ :: _) _ _); (refine alA hm ?_; clear hm; intro n w hn hz hm ho; (try simp only [List.cons_append, List.nil_append] at hm)))); try simp only [Act.put, sxQ]))
  go_ret
  exact ⟨hm.low, .inl ⟨rfl, rfl⟩⟩
set_option maxRecDepth 100000 in
theorem new_len2 (w0 : World) (E M R D C : Option Addr) (ce cm cr cd cn cc n2 n3 : Nat) (lvl : Int) (s : Sec.S) (h : n2 ≠ 16) :
    Calls Tryz.prog 5 #[.agg #[.slice E 16 ce, .slice M 16 cm, .slice R n2 cr, .slice D n3 cd, .int .i64 lvl], .slice C cn cc] w0 (NewRes w0 false s) := by
  have i0 : ((n2 : Int) == 16) = false := by rw [beq_eq_false_iff_ne]; omega
  have hm := Mem.nil (fun _ => False) w0
  clear h
  go_enter Tryz.func5, Tryz.ntmps5
  go_wp2_with (first | go_skip | ((with_reducible show wpList _ _ _ _ _ (World.alloc _ _)); refine wpList_up hm ?_; clear hm; intro n w hn hn2 hk hm hd hd2 ho; (try rw [← hn]); replace hn := Nat.le_of_eq hn.symm) | ((first | ((with_reducible show wpList _ _ _ (Oper.mk _ (Op.box _ _) _ _ _ _ :: _) _ _); (refine bxA hm ?_; clear hm; intro n w hn hz hm ho; (try simp only [List.cons_append, List.nil_append] at hm))) | ((with_reducible show wpList _ _ _ (Oper.mk _ (Op.load _ _) _ _ _ _ :: _) _ _); first | (refine ldA hm ?_) | (refine laA hm ?_)) | ((with_reducible show wpList _ _ _ (Oper.mk _ (Op.store _ _ _) _ _ _ _ :: _) _ _); (refine stA hm ?_; clear hm; intro w hz hm ho)) | ((with_reducible show wpList _ _ _ (Oper.mk _ (Op.alloc _) _ _ _ _ :: _) _ _); (refine alA hm ?_; clear hm; intro n w hn hz hm ho; (try simp only [List.cons_append, List.nil_append] at hm)))); try simp only [Act.put, sxQ]))
  replace hm := hm.cons hk (.inr hn2) (fun e he e2 => hd e he e2.symm) hd2
  clear hk hd hd2
  refine wp_loop_rounds 5 ?_
  iterate 3
    rw [rounds_succ]
    go_wp2_with (first | go_skip | ((with_reducible show wpList _ _ _ _ _ (World.alloc _ _)); refine wpList_up hm ?_; clear hm; intro n w hn hn2 hk hm hd hd2 ho; (try rw [← hn]); replace hn := Nat.le_of_eq hn.symm) | ((first | ((with_reducible show wpList _ _ _ (Oper.mk _ (Op.box _ _) _ _ _ _ :: _) _ _); (refine bxA hm ?_; clear hm; intro n w hn hz hm ho; (try simp only [List.cons_append, List.nil_append] at hm))) | ((with_reducible show wpList _ _ _ (Oper.mk _ (Op.load _ _) _ _ _ _ :: _) _ _); first | (refine ldA hm ?_) | (refine laA hm ?_)) | ((with_reducible show wpList _ _ _ (Oper.mk _ (Op.store _ _ _) _ _ _ _ :: _) _ _); (refine stA hm ?_; clear hm; intro w hz hm ho)) | ((with_reducible show wpList _ _ _ (Oper.mk _ (Op.alloc _) _ _ _ _ :: _) _ _); (refine alA hm ?_; clear hm; intro n w hn hz hm ho; (try simp only [List.cons_append, List.nil_append] at hm)))); try simp only [Act.put, sxQ]))
  go_ret
  exact ⟨hm.low, .inl ⟨rfl, rfl⟩⟩
set_option maxRecDepth 100000 in
theorem new_len3 (w0 : World) (E M R D C : Option Addr) (ce cm cr cd cn cc n3 : Nat) (lvl : Int) (s : Sec.S) (h : n3 ≠ 16) :
    Calls Tryz.prog 5 #[.agg #[.slice E 16 ce, .slice M 16 cm, .slice R 16 cr, .slice D n3 cd, .int .i64 lvl], .slice C cn cc] w0 (NewRes w0 false s) := by
  have i0 : ((n3 : Int) == 16) = false := by rw [beq_eq_false_iff_ne]; omega
  have hm := Mem.nil (fun _ => False) w0
  clear h
  go_enter Tryz.func5, Tryz.ntmps5
  go_wp2_with (first | go_skip | ((with_reducible show wpList _ _ _ _ _ (World.alloc _ _)); refine wpList_up hm ?_; clear hm; intro n w hn hn2 hk hm hd hd2 ho; (try rw [← hn]); replace hn := Nat.le_of_eq hn.symm) | ((first | ((with_reducible show wpList _ _ _ (Oper.mk _ (Op.box _ _) _ _ _ _ :: _) _ _); (refine bxA hm ?_; clear hm; intro n w hn hz hm ho; (try simp only [List.cons_append, List.nil_append] at hm))) | ((with_reducible show wpList _ _ _ (Oper.mk _ (Op.load _ _) _ _ _ _ :: _) _ _); first | (refine ldA hm ?_) | (refine laA hm ?_)) | ((with_reducible show wpList _ _ _ (Oper.mk _ (Op.store _ _ _) _ _ _ _ :: _) _ _); (refine stA hm ?_; clear hm; intro w hz hm ho)) | ((with_reducible show wpList _ _ _ (Oper.mk _ (Op.alloc _) _ _ _ _ :: _) _ _); (refine alA hm ?_; clear hm; intro n w hn hz hm ho; (try simp only [List.cons_append, List.nil_append] at hm)))); try simp only [Act.put, sxQ]))
  replace hm := hm.cons hk (.inr hn2) (fun e he e2 => hd e he e2.symm) hd2
  clear hk hd hd2
  refine wp_loop_rounds 5 ?_
  iterate 4
    rw [rounds_succ]
    go_wp2_with (first | go_skip | ((with_reducible show wpList _ _ _ _ _ (World.alloc _ _)); refine wpList_up hm ?_; clear hm; intro n w hn hn2 hk hm hd hd2 ho; (try rw [← hn]); replace hn := Nat.le_of_eq hn.symm) | ((first | ((with_reducible show wpList _ _ _ (Oper.mk _ (Op.box _ _) _ _ _ _ :: _) _ _); (refine bxA hm ?_; clear hm; intro n w hn hz hm ho; (try simp only [List.cons_append, List.nil_append] at hm))) | ((with_reducible show wpList _ _ _ (Oper.mk _ (Op.load _ _) _ _ _ _ :: _) _ _); first | (refine ldA hm ?_) | (refine laA hm ?_)) | ((with_reducible show wpList _ _ _ (Oper.mk _ (Op.store _ _ _) _ _ _ _ :: _) _ _); (refine stA hm ?_; clear hm; intro w hz hm ho)) | ((with_reducible show wpList _ _ _ (Oper.mk _ (Op.alloc _) _ _ _ _ :: _) _ _); (refine alA hm ?_; clear hm; intro n w hn hz hm ho; (try simp only [List.cons_append, List.nil_append] at hm)))); try simp only [Act.put, sxQ]))
  go_ret
  exact ⟨hm.low, .inl ⟨rfl, rfl⟩⟩
set_option maxRecDepth 100000 in
theorem new_lv (w0 : World) (E M R D C : Option Addr) (ce cm cr cd cn cc : Nat) (lvl : Int) (hl : -9223372036854775808 ≤ lvl ∧ lvl ≤ 9223372036854775807) (s : Sec.S) (h : Sec.lvOk lvl = false) :
    Calls Tryz.prog 5 #[.agg #[.slice E 16 ce, .slice M 16 cm, .slice R 16 cr, .slice D 16 cd, .int .i64 lvl], .slice C cn cc] w0 (NewRes w0 false s) := by
  have hlv := secure_levelValid lvl hl
  rw [h] at hlv
  have HLV := Lib.hid hlv
  clear hlv h
  have hm := Mem.nil (fun _ => False) w0
  go_enter Tryz.func5, Tryz.ntmps5
  go_wp2_with (first | go_skip | ((with_reducible show wpList _ _ _ _ _ (World.alloc _ _)); refine wpList_up hm ?_; clear hm; intro n w hn hn2 hk hm hd hd2 ho; (try rw [← hn]); replace hn := Nat.le_of_eq hn.symm) | ((first | ((with_reducible show wpList _ _ _ (Oper.mk _ (Op.box _ _) _ _ _ _ :: _) _ _); (refine bxA hm ?_; clear hm; intro n w hn hz hm ho; (try simp only [List.cons_append, List.nil_append] at hm))) | ((with_reducible show wpList _ _ _ (Oper.mk _ (Op.load _ _) _ _ _ _ :: _) _ _); first | (refine ldA hm ?_) | (refine laA hm ?_)) | ((with_reducible show wpList _ _ _ (Oper.mk _ (Op.store _ _ _) _ _ _ _ :: _) _ _); (refine stA hm ?_; clear hm; intro w hz hm ho)) | ((with_reducible show wpList _ _ _ (Oper.mk _ (Op.alloc _) _ _ _ _ :: _) _ _); (refine alA hm ?_; clear hm; intro n w hn hz hm ho; (try simp only [List.cons_append, List.nil_append] at hm)))); try simp only [Act.put, sxQ]))
  replace hm := hm.cons hk (.inr hn2) (fun e he e2 => hd e he e2.symm) hd2
  clear hk hd hd2
  refine wp_loop_rounds 5 ?_
  iterate 5
    rw [rounds_succ]
    go_wp2_with (first | go_skip | ((with_reducible show wpList _ _ _ _ _ (World.alloc _ _)); refine wpList_up hm ?_; clear hm; intro n w hn hn2 hk hm hd hd2 ho; (try rw [← hn]); replace hn := Nat.le_of_eq hn.symm) | ((first | ((with_reducible show wpList _ _ _ (Oper.mk _ (Op.box _ _) _ _ _ _ :: _) _ _); (refine bxA hm ?_; clear hm; intro n w hn hz hm ho; (try simp only [List.cons_append, List.nil_append] at hm))) | ((with_reducible show wpList _ _ _ (Oper.mk _ (Op.load _ _) _ _ _ _ :: _) _ _); first | (refine ldA hm ?_) | (refine laA hm ?_)) | ((with_reducible show wpList _ _ _ (Oper.mk _ (Op.store _ _ _) _ _ _ _ :: _) _ _); (refine stA hm ?_; clear hm; intro w hz hm ho)) | ((with_reducible show wpList _ _ _ (Oper.mk _ (Op.alloc _) _ _ _ _ :: _) _ _); (refine alA hm ?_; clear hm; intro n w hn hz hm ho; (try simp only [List.cons_append, List.nil_append] at hm)))); try simp only [Act.put, sxQ]) | (go_at_call 10; refine (HLV.out _).mono ?_; rintro e w2 ⟨rfl, rfl⟩))
  go_ret
  exact ⟨hm.low, .inl ⟨rfl, rfl⟩⟩
set_option maxRecDepth 100000 in
theorem new_mac (w0 : World) (E M R D C : Option Addr) (ce cm cr cd cn cc : Nat) (lvl : Int) (hl : -9223372036854775808 ≤ lvl ∧ lvl ≤ 9223372036854775807) (s : Sec.S) (h : Sec.lvOk lvl = true) (hn : cn ≠ 8) :
    Calls Tryz.prog 5 #[.agg #[.slice E 16 ce, .slice M 16 cm, .slice R 16 cr, .slice D 16 cd, .int .i64 lvl], .slice C cn cc] w0 (NewRes w0 false s) := by
  have hlv := secure_levelValid lvl hl
  rw [h] at hlv
  have HLV := Lib.hid hlv
  have i0 : ((cn : Int) == 8) = false := by rw [beq_eq_false_iff_ne]; omega
  clear hlv h hn
  have hm := Mem.nil (fun _ => False) w0
  go_enter Tryz.func5, Tryz.ntmps5
  go_wp2_with (first | go_skip | ((with_reducible show wpList _ _ _ _ _ (World.alloc _ _)); refine wpList_up hm ?_; clear hm; intro n w hn hn2 hk hm hd hd2 ho; (try rw [← hn]); replace hn := Nat.le_of_eq hn.symm) | ((first | ((with_reducible show wpList _ _ _ (Oper.mk _ (Op.box _ _) _ _ _ _ :: _) _ _); (refine bxA hm ?_; clear hm; intro n w hn hz hm ho; (try simp only [List.cons_append, List.nil_append] at hm))) | ((with_reducible show wpList _ _ _ (Oper.mk _ (Op.load _ _) _ _ _ _ :: _) _ _); first | (refine ldA hm ?_) | (refine laA hm ?_)) | ((with_reducible show wpList _ _ _ (Oper.mk _ (Op.store _ _ _) _ _ _ _ :: _) _ _); (refine stA hm ?_; clear hm; intro w hz hm ho)) | ((with_reducible show wpList _ _ _ (Oper.mk _ (Op.alloc _) _ _ _ _ :: _) _ _); (refine alA hm ?_; clear hm; intro n w hn hz hm ho; (try simp only [List.cons_append, List.nil_append] at hm)))); try simp only [Act.put, sxQ]))
  replace hm := hm.cons hk (.inr hn2) (fun e he e2 => hd e he e2.symm) hd2
  clear hk hd hd2
  refine wp_loop_rounds 5 ?_
  iterate 5
    rw [rounds_succ]
    go_wp2_with (first | go_skip | ((with_reducible show wpList _ _ _ _ _ (World.alloc _ _)); refine wpList_up hm ?_; clear hm; intro n w hn hn2 hk hm hd hd2 ho; (try rw [← hn]); replace hn := Nat.le_of_eq hn.symm) | ((first | ((with_reducible show wpList _ _ _ (Oper.mk _ (Op.box _ _) _ _ _ _ :: _) _ _); (refine bxA hm ?_; clear hm; intro n w hn hz hm ho; (try simp only [List.cons_append, List.nil_append] at hm))) | ((with_reducible show wpList _ _ _ (Oper.mk _ (Op.load _ _) _ _ _ _ :: _) _ _); first | (refine ldA hm ?_) | (refine laA hm ?_)) | ((with_reducible show wpList _ _ _ (Oper.mk _ (Op.store _ _ _) _ _ _ _ :: _) _ _); (refine stA hm ?_; clear hm; intro w hz hm ho)) | ((with_reducible show wpList _ _ _ (Oper.mk _ (Op.alloc _) _ _ _ _ :: _) _ _); (refine alA hm ?_; clear hm; intro n w hn hz hm ho; (try simp only [List.cons_append, List.nil_append] at hm)))); try simp only [Act.put, sxQ]) | (go_at_call 10; refine (HLV.out _).mono ?_; rintro e w2 ⟨rfl, rfl⟩))
  go_ret
  exact ⟨hm.low, .inl ⟨rfl, rfl⟩⟩
set_option maxRecDepth 100000 in
theorem new_good (w0 : World) (E M R D C : Option Addr) (ce cm cr cd cc : Nat) (enc mac rmac dat m : List UInt8) (lvl : Int) (hl : -9223372036854775808 ≤ lvl ∧ lvl ≤ 9223372036854775807) (hE : Byt w0 w0.heap.size E 16 ce enc) (hM : Byt w0 w0.heap.size M 16 cm mac) (hR : Byt w0 w0.heap.size R 16 cr rmac) (hD : Byt w0 w0.heap.size D 16 cd dat) (hC : Byt w0 w0.heap.size C 8 cc m) (h : Sec.lvOk lvl = true) :
    Calls Tryz.prog 5 #[.agg #[.slice E 16 ce, .slice M 16 cm, .slice R 16 cr, .slice D 16 cd, .int .i64 lvl], .slice C 8 cc] w0 (NewRes w0 true ⟨enc, mac, rmac, dat, lvl, m, 0, false, false⟩) := by
  have hlv := secure_levelValid lvl hl
  rw [h] at hlv
  have HLV := Lib.hid hlv
  have HOK : Hid (Sec.Ok ⟨enc, mac, rmac, dat, lvl, m, 0, false, false⟩) := Lib.hid { enc := hE.1, mac := hM.1, rmac := hR.1, dat := hD.1, lvl := h, chain := hC.1 }
  have HE := Lib.hid hE
  have HM := Lib.hid hM
  have HR := Lib.hid hR
  have HD := Lib.hid hD
  have HC := Lib.hid hC
  clear hlv h hl hE hM hR hD hC
  have hm := Mem.nil (fun _ => False) w0
  go_enter Tryz.func5, Tryz.ntmps5
  go_wp2_with (first | go_skip | ((with_reducible show wpList _ _ _ _ _ (World.alloc _ _)); refine wpList_up hm ?_; clear hm; intro n w hn hn2 hk hm hd hd2 ho; (try rw [← hn]); replace hn := Nat.le_of_eq hn.symm) | ((first | ((with_reducible show wpList _ _ _ (Oper.mk _ (Op.box _ _) _ _ _ _ :: _) _ _); (refine bxA hm ?_; clear hm; intro n w hn hz hm ho; (try simp only [List.cons_append, List.nil_append] at hm))) | ((with_reducible show wpList _ _ _ (Oper.mk _ (Op.load _ _) _ _ _ _ :: _) _ _); first | (refine ldA hm ?_) | (refine laA hm ?_)) | ((with_reducible show wpList _ _ _ (Oper.mk _ (Op.store _ _ _) _ _ _ _ :: _) _ _); (refine stA hm ?_; clear hm; intro w hz hm ho)) | ((with_reducible show wpList _ _ _ (Oper.mk _ (Op.alloc _) _ _ _ _ :: _) _ _); (refine alA hm ?_; clear hm; intro n w hn hz hm ho; (try simp only [List.cons_append, List.nil_append] at hm)))); try simp only [Act.put, sxQ]))
  replace hm := hm.cons hk (.inr hn2) (fun e he e2 => hd e he e2.symm) hd2
  clear hk hd hd2
  refine wp_loop_rounds 5 ?_
  iterate 5
    rw [rounds_succ]
    go_wp2_with (first | go_skip | ((with_reducible show wpList _ _ _ _ _ (World.alloc _ _)); refine wpList_up hm ?_; clear hm; intro n w hn hn2 hk hm hd hd2 ho; (try rw [← hn]); replace hn := Nat.le_of_eq hn.symm) | ((first | ((with_reducible show wpList _ _ _ (Oper.mk _ (Op.box _ _) _ _ _ _ :: _) _ _); (refine bxA hm ?_; clear hm; intro n w hn hz hm ho; (try simp only [List.cons_append, List.nil_append] at hm))) | ((with_reducible show wpList _ _ _ (Oper.mk _ (Op.load _ _) _ _ _ _ :: _) _ _); first | (refine ldA hm ?_) | (refine laA hm ?_)) | ((with_reducible show wpList _ _ _ (Oper.mk _ (Op.store _ _ _) _ _ _ _ :: _) _ _); (refine stA hm ?_; clear hm; intro w hz hm ho)) | ((with_reducible show wpList _ _ _ (Oper.mk _ (Op.alloc _) _ _ _ _ :: _) _ _); (refine alA hm ?_; clear hm; intro n w hn hz hm ho; (try simp only [List.cons_append, List.nil_append] at hm)))); try simp only [Act.put, sxQ]) | (go_at_call 10; refine (HLV.out _).mono ?_; rintro e w2 ⟨rfl, rfl⟩))
  refine wp_region_noPanic ?_
  refine wp_region_phase (S := MemS _ _ _ _) [13, 15, 17, 19] (by kernel_rfl) (MemS.of hm.drew) (fun hHeld => ?_)
  refine wpAnyP_fresh (by repeat (first | apply Fresh.a | apply Fresh.b)) ?_
  replace hm := hm.drew
  iterate 2 (first | (refine takePN 0 hHeld ?_) | (refine takePY 0 ?_ hHeld ?_ ?_; rotate_left 1; (first | (intro w9 h9; (with_reducible show (execOp _ (Oper.mk _ (Op.load _ _) _ _ _ _)).run _ _ = _); first | exact h9.ldA | exact h9.laA) | focus (intro w9 hSw; go_simp; (try (with_reducible rfl)); done))); try simp only [Act.put, sxQ])
  iterate 2 (first | (refine takePN 3 hHeld ?_) | (refine takePY 3 ?_ hHeld ?_ ?_; rotate_left 1; (first | (intro w9 h9; (with_reducible show (execOp _ (Oper.mk _ (Op.load _ _) _ _ _ _)).run _ _ = _); first | exact h9.ldA | exact h9.laA) | focus (intro w9 hSw; go_simp; (try (with_reducible rfl)); done))); try simp only [Act.put, sxQ])
  iterate 2 (first | (refine takePN 6 hHeld ?_) | (refine takePY 6 ?_ hHeld ?_ ?_; rotate_left 1; (first | (intro w9 h9; (with_reducible show (execOp _ (Oper.mk _ (Op.load _ _) _ _ _ _)).run _ _ = _); first | exact h9.ldA | exact h9.laA) | focus (intro w9 hSw; go_simp; (try (with_reducible rfl)); done))); try simp only [Act.put, sxQ])
  iterate 2 (first | (refine takePN 9 hHeld ?_) | (refine takePY 9 ?_ hHeld ?_ ?_; rotate_left 1; (first | (intro w9 h9; (with_reducible show (execOp _ (Oper.mk _ (Op.load _ _) _ _ _ _)).run _ _ = _); first | exact h9.ldA | exact h9.laA) | focus (intro w9 hSw; go_simp; (try (with_reducible rfl)); done))); try simp only [Act.put, sxQ])
  refine wpAnyP_one 2 (by kernel_rfl) (by simp only [sxN]; first | done | exact rfl) (fun K hK => ?_)
  rw [if_pos (by rfl)]
  go_simp
  refine (slices_Clone E 16 ce enc _ (by exact (HE.out.below hm.low).more hm.only.size) (by omega)).mono ?_
  rintro e w2 ⟨A1, c1, rfl, hown, hbl⟩
  replace hm := hm.got hbl hown
  clear hown
  go_simp
  refine hK.out _ _ (MemS.of hm.less) (fun hHeld => ?_)
  clear hK K
  try simp only [Act.put, sxQ]
  iterate 1 (refine wpAnyP_takeP (b := 12) (by repeat (first | apply Seek.a | apply Seek.b | apply Seek.c)) (by simp only [sxN]; first | done | exact rfl) ⟨?_, by kernel_rfl, by kernel_rfl, by kernel_rfl, by kernel_rfl, fun _ _ _ h => h, Or.inl ⟨by rfl, ?_⟩, (by first | exact Early.of hHeld | exact Early.off (by kernel_rfl)), ?_⟩; rotate_left 1; focus (intro w9 hSw; go_simp; (try (with_reducible rfl)); done); try simp only [Act.put, sxQ])
  try simp only [Act.put, sxQ]
  refine wpAnyP_one 5 (by kernel_rfl) (by simp only [sxN]; first | done | exact rfl) (fun K hK => ?_)
  rw [if_pos (by rfl)]
  go_simp
  refine (slices_Clone M 16 cm mac _ (by exact (HM.out.below hm.low).more hm.only.size) (by omega)).mono ?_
  rintro e w2 ⟨A2, c2, rfl, hown, hbl⟩
  replace hm := hm.got hbl hown
  clear hown
  go_simp
  refine hK.out _ _ (MemS.of hm.less.less) (fun hHeld => ?_)
  clear hK K
  try simp only [Act.put, sxQ]
  refine wpAnyP_one 8 (by kernel_rfl) (by simp only [sxN]; first | done | exact rfl) (fun K hK => ?_)
  rw [if_pos (by rfl)]
  go_simp
  refine (slices_Clone R 16 cr rmac _ (by exact (HR.out.below hm.low).more hm.only.size) (by omega)).mono ?_
  rintro e w2 ⟨A3, c3, rfl, hown, hbl⟩
  replace hm := hm.got hbl hown
  clear hown
  go_simp
  refine hK.out _ _ (MemS.of hm.less.less.less) (fun hHeld => ?_)
  clear hK K
  try simp only [Act.put, sxQ]
  refine wpAnyP_one 11 (by kernel_rfl) (by simp only [sxN]; first | done | exact rfl) (fun K hK => ?_)
  rw [if_pos (by rfl)]
  go_simp
  refine (slices_Clone D 16 cd dat _ (by exact (HD.out.below hm.low).more hm.only.size) (by omega)).mono ?_
  rintro e w2 ⟨A4, c4, rfl, hown, hbl⟩
  replace hm := hm.got hbl hown
  clear hown
  go_simp
  refine hK.out _ _ (MemS.of hm.less.less.less.less) (fun hHeld => ?_)
  clear hK K
  try simp only [Act.put, sxQ]
  refine wpAnyP_last 13 (by kernel_rfl) (by simp only [sxN]; first | done | exact rfl) (by kernel_rfl) (fun K hK => ?_)
  refine stB hm ?_
  clear hm; intro w hz hm ho
  refine hK.out _ _ ?_
  clear hK K
  try simp only [Act.put, sxQ]
  iterate 1 (refine wpAnyP_takeP (b := 14) (by repeat (first | apply Seek.a | apply Seek.b | apply Seek.c)) (by simp only [sxN]; first | done | exact rfl) ⟨?_, by kernel_rfl, by kernel_rfl, by kernel_rfl, by kernel_rfl, fun _ _ _ h => h, Or.inl ⟨by rfl, ?_⟩, (by first | exact Early.of hHeld | exact Early.off (by kernel_rfl)), ?_⟩; rotate_left 1; focus (intro w9 hSw; go_simp; (try (with_reducible rfl)); done); try simp only [Act.put, sxQ])
  try simp only [Act.put, sxQ]
  refine wpAnyP_last 15 (by kernel_rfl) (by simp only [sxN]; first | done | exact rfl) (by kernel_rfl) (fun K hK => ?_)
  refine stB hm ?_
  clear hm; intro w hz hm ho
  refine hK.out _ _ ?_
  clear hK K
  try simp only [Act.put, sxQ]
  iterate 1 (refine wpAnyP_takeP (b := 16) (by repeat (first | apply Seek.a | apply Seek.b | apply Seek.c)) (by simp only [sxN]; first | done | exact rfl) ⟨?_, by kernel_rfl, by kernel_rfl, by kernel_rfl, by kernel_rfl, fun _ _ _ h => h, Or.inl ⟨by rfl, ?_⟩, (by first | exact Early.of hHeld | exact Early.off (by kernel_rfl)), ?_⟩; rotate_left 1; focus (intro w9 hSw; go_simp; (try (with_reducible rfl)); done); try simp only [Act.put, sxQ])
  try simp only [Act.put, sxQ]
  refine wpAnyP_last 17 (by kernel_rfl) (by simp only [sxN]; first | done | exact rfl) (by kernel_rfl) (fun K hK => ?_)
  refine stB hm ?_
  clear hm; intro w hz hm ho
  refine hK.out _ _ ?_
  clear hK K
  try simp only [Act.put, sxQ]
  iterate 1 (refine wpAnyP_takeP (b := 18) (by repeat (first | apply Seek.a | apply Seek.b | apply Seek.c)) (by simp only [sxN]; first | done | exact rfl) ⟨?_, by kernel_rfl, by kernel_rfl, by kernel_rfl, by kernel_rfl, fun _ _ _ h => h, Or.inl ⟨by rfl, ?_⟩, (by first | exact Early.of hHeld | exact Early.off (by kernel_rfl)), ?_⟩; rotate_left 1; focus (intro w9 hSw; go_simp; (try (with_reducible rfl)); done); try simp only [Act.put, sxQ])
  try simp only [Act.put, sxQ]
  refine wpAnyP_last 19 (by kernel_rfl) (by simp only [sxN]; first | done | exact rfl) (by kernel_rfl) (fun K hK => ?_)
  refine stB hm ?_
  clear hm; intro w hz hm ho
  refine hK.out _ _ ?_
  clear hK K
  try simp only [Act.put, sxQ]
  refine wpAnyP_done (by kernel_rfl) ?_ _
  refine NoPanic.normal ?_
  go_wp2_with (first | go_skip | ((with_reducible show wpList _ _ _ _ _ (World.alloc _ _)); refine wpList_up hm ?_; clear hm; intro n w hn hn2 hk hm hd hd2 ho; (try rw [← hn]); replace hn := Nat.le_of_eq hn.symm) | ((first | ((with_reducible show wpList _ _ _ (Oper.mk _ (Op.box _ _) _ _ _ _ :: _) _ _); (refine bxA hm ?_; clear hm; intro n w hn hz hm ho; (try simp only [List.cons_append, List.nil_append] at hm))) | ((with_reducible show wpList _ _ _ (Oper.mk _ (Op.load _ _) _ _ _ _ :: _) _ _); first | (refine ldA hm ?_) | (refine laA hm ?_)) | ((with_reducible show wpList _ _ _ (Oper.mk _ (Op.store _ _ _) _ _ _ _ :: _) _ _); (refine stA hm ?_; clear hm; intro w hz hm ho)) | ((with_reducible show wpList _ _ _ (Oper.mk _ (Op.alloc _) _ _ _ _ :: _) _ _); (refine alA hm ?_; clear hm; intro n w hn hz hm ho; (try simp only [List.cons_append, List.nil_append] at hm)))); try simp only [Act.put, sxQ]))
  refine wp_region_noPanic ?_
  refine wp_region_held_drew (S := MemS _ _ _ _) (by kernel_rfl) (MemS.of hm.drew) (fun hHeld => ?_)
  refine wpAnyH_fresh (by repeat (first | apply Fresh.a | apply Fresh.b)) ?_
  replace hm := hm.drew
  iterate 2 (first | (refine takeN 0 hHeld ?_) | (refine takeY 0 ?_ hHeld ?_ ?_; rotate_left 1; (first | (intro w9 h9; (with_reducible show (execOp _ (Oper.mk _ (Op.load _ _) _ _ _ _)).run _ _ = _); first | exact h9.ldA | exact h9.laA) | focus (intro w9 hSw; go_simp; (try (with_reducible rfl)); done))); try simp only [Act.put, sxQ])
  refine wpAnyH_ready (rs := [2]) (by kernel_rfl) (by simp) ?_
  refine AllReadyH.cons2 (by simp only [sxN]; first | done | exact rfl) (fun K hK => ?_)
  rw [if_pos (by rfl)]
  go_simp
  refine (slices_Clone C 8 cc m _ (by exact (HC.out.below hm.low).more hm.only.size) (by omega)).mono ?_
  rintro e w2 ⟨A5, c5, rfl, hown, hbl⟩
  replace hm := hm.got hbl hown
  clear hown
  go_simp
  refine hK.out _ _ (MemS.of hm.less) (fun hHeld => ?_)
  clear hK K
  try simp only [Act.put, sxQ]
  iterate 1 (first | (refine takeN 3 hHeld ?_) | (refine takeY 3 ?_ hHeld ?_ ?_; rotate_left 1; (first | (intro w9 h9; (with_reducible show (execOp _ (Oper.mk _ (Op.load _ _) _ _ _ _)).run _ _ = _); first | exact h9.ldA) | focus (intro w9 hSw; go_simp; (try (with_reducible rfl)); done))); try simp only [Act.put, sxQ])
  refine wpAnyH_ready (rs := [4]) (by kernel_rfl) (by simp) ?_
  refine AllReadyH.cons2 (by simp only [sxN]; first | done | exact rfl) (fun K hK => ?_)
  rw [if_pos (by rfl)]
  go_simp
  refine K_up hm ?_
  intro n5 w5 hn hn5s hn5 hm1 hn5d hn5d2 hb1
  rw [← hn]
  clear hn hm
  have hm := hm1.cons hn5 (.inr hn5s) (fun e he e2 => hn5d e he e2.symm) hn5d2
  clear hm1 hn5d hn5d2
  refine hK.out _ _ (MemS.of (hm.wo 0).less) (fun hHeld => ?_)
  clear hK K
  try simp only [Act.put, sxQ]
  iterate 1 (first | (refine takeN 5 hHeld ?_) | (refine takeY 5 ?_ hHeld ?_ ?_; rotate_left 1; (first | (intro w9 h9; (with_reducible show (execOp _ (Oper.mk _ (Op.load _ _) _ _ _ _)).run _ _ = _); first | exact h9.ldA) | focus (intro w9 hSw; go_simp; (try (with_reducible rfl)); done))); try simp only [Act.put, sxQ])
  refine wpAnyH_done (by kernel_rfl) ?_ _
  refine NoPanic.normal ?_
  go_wp2_with fail
  go_ret
  simp only [List.nil_append, List.cons_append] at hm
  refine ⟨hm.low, .inr ⟨rfl, n5, fun q => w0.heap.size ≤ q ∧ q < w5.heap.size, rfl, ⟨⟨A1, c1, A2, c2, A3, c3, A4, c4, A5, c5⟩, ?_⟩, fun q hq => hq.1⟩⟩
  exact { ok := HOK.out, blk := by exact hm.at_ 0 rfl, fg := ⟨hn5s, hm.lt List.mem_cons_self⟩, enc := new_byt hm 0 0 rfl rfl (by omega), mac := new_byt hm 0 1 rfl rfl (by omega), rmac := new_byt hm 0 2 rfl rfl (by omega), dat := new_byt hm 0 3 rfl rfl (by omega), chain := new_byt hm 0 4 rfl rfl (by omega), lt := fun q hq => hq.2 }
theorem ch_new (w0 : World) (E M R D C : Option Addr) (en ce mn cm rn cr dn cd cn cc : Nat) (enc mac rmac dat m : List UInt8) (lvl : Int) (hl : -9223372036854775808 ≤ lvl ∧ lvl ≤ 9223372036854775807) (hE : Byt w0 w0.heap.size E en ce enc) (hM : Byt w0 w0.heap.size M mn cm mac) (hR : Byt w0 w0.heap.size R rn cr rmac) (hD : Byt w0 w0.heap.size D dn cd dat) (hC : Byt w0 w0.heap.size C cn cc m) :
    Calls Tryz.prog 5 #[.agg #[.slice E en ce, .slice M mn cm, .slice R rn cr, .slice D dn cd, .int .i64 lvl], .slice C cn cc] w0 (NewRes w0 (Sec.valid enc mac rmac dat lvl m) ⟨enc, mac, rmac, dat, lvl, m, 0, false, false⟩) := by
  have hno : ¬ (en = 16 ∧ mn = 16 ∧ rn = 16 ∧ dn = 16 ∧ Sec.lvOk lvl = true ∧ cn = 8) → Sec.valid enc mac rmac dat lvl m = false := fun h => by
    unfold Sec.valid
    rw [hE.1, hM.1, hR.1, hD.1, hC.1]
    exact decide_eq_false h
  by_cases h1 : en = 16
  rotate_left 1
  · rw [hno (fun h => h1 h.1)]; exact new_len0 w0 E M R D C ce cm cr cd cn cc en mn rn dn lvl _ h1
  by_cases h2 : mn = 16
  rotate_left 1
  · rw [hno (fun h => h2 h.2.1)]; subst h1; exact new_len1 w0 E M R D C ce cm cr cd cn cc mn rn dn lvl _ h2
  by_cases h3 : rn = 16
  rotate_left 1
  · rw [hno (fun h => h3 h.2.2.1)]; subst h1; subst h2; exact new_len2 w0 E M R D C ce cm cr cd cn cc rn dn lvl _ h3
  by_cases h4 : dn = 16
  rotate_left 1
  · rw [hno (fun h => h4 h.2.2.2.1)]; subst h1; subst h2; subst h3; exact new_len3 w0 E M R D C ce cm cr cd cn cc dn lvl _ h4
  subst h1; subst h2; subst h3; subst h4
  cases h5 : Sec.lvOk lvl with
  | false => rw [hno (fun h => by rw [h5] at h; cases h.2.2.2.2.1)]; exact new_lv w0 E M R D C ce cm cr cd cn cc lvl hl _ h5
  | true =>
  by_cases h6 : cn = 8
  rotate_left 1
  · rw [hno (fun h => h6 h.2.2.2.2.2)]; exact new_mac w0 E M R D C ce cm cr cd cn cc lvl hl _ h5 h6
  subst h6
  rw [show Sec.valid enc mac rmac dat lvl m = true by unfold Sec.valid; exact decide_eq_true ⟨hE.1, hM.1, hR.1, hD.1, h5, hC.1⟩]
  exact new_good w0 E M R D C ce cm cr cd cc enc mac rmac dat m lvl hl hE hM hR hD hC h5
end Go.Proofs.YtibaibdgpnkdnaaGreatDoor
