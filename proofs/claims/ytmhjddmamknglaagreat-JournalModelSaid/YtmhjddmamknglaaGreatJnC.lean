/-
  The journal: bytes of numbers; the head.
-/
import Derived.Test.YtmhjddmamknglaaGreatZ0
import Derived.Test.YtmhjddmamknglaaGreatJnB
namespace Go.Proofs.YtmhjddmamknglaaGreat
set_option maxRecDepth 100000
set_option linter.unusedSimpArgs false
set_option linter.unusedVariables false
open Go.RowKit
set_option maxHeartbeats 8000000

/-- After k rounds. -/
def bytK (n w k : Nat) : List UInt8 := List.replicate (w - k) 0 ++ Jn.bytesOf n k
theorem bytK_length (n w k : Nat) (h : k ≤ w) : (bytK n w k).length = w := by simp [bytK, Jn.bytesOf_length]; omega
theorem bytK_next (n w k : Nat) (h : k < w) : (bytK n w k).set (w - 1 - k) (UInt8.ofNat (n / 256 ^ k)) = bytK n w (k + 1) := by
  unfold bytK
  obtain ⟨j, hj⟩ : ∃ j, w - k = j + 1 := ⟨w - k - 1, by omega⟩
  rw [hj, show w - (k + 1) = j by omega, show w - 1 - k = j by omega, Jn.bytesOf_succ, List.replicate_succ', List.append_assoc, List.set_append_right _ _ (by simp), List.length_replicate, Nat.sub_self]
  rfl
theorem spl_bytes (bs : List UInt8) (i : Nat) (hi : i < bs.length) (x : UInt8) : spl (bcells bs).toArray i #[Value.int .u8 (x.toNat : Int)] = (bcells (bs.set i x)).toArray := by
  have h1 : i < (bcells bs).length := by rw [length_bcells]; exact hi
  have h2 : (bcells bs).set i (Value.int .u8 (x.toNat : Int)) = (bcells bs).take i ++ [Value.int .u8 (x.toNat : Int)] ++ (bcells bs).drop (i + 1) := by
    rw [List.set_eq_take_append_cons_drop, if_pos h1]; simp
  unfold spl
  have h3 : bcells (bs.set i x) = (bcells bs).set i (Value.int .u8 (x.toNat : Int)) := by rw [bcells, List.map_set]; rfl
  rw [h3, h2]
  rfl
theorem made_bytes (n : Nat) : madeCells #[Value.int .u8 0] n = (bcells (List.replicate n (0 : UInt8))).toArray := by
  apply Array.toList_inj.1
  simp only [madeCells, bcells]
  apply List.ext_getElem
  · simp
  · intro j h1 h2
    simp [Nat.mod_one]
theorem jn_bytesOf (x0 wd : Nat) (w0 : World) (hx : x0 < 2 ^ 63) (h8 : wd ≤ 8) (h1 : 0 < wd) :
    Calls Tryz.prog 54 #[.int .i64 (x0 : Int), .int .i64 (wd : Int)] w0 fun e w' => ∃ q, e = .returned (.slice (some ⟨q, 0, none⟩) wd wd) ∧ Own w' w0.heap.size 5 1 (some ⟨q, 0, none⟩) wd wd (bcells (Jn.bytesOf x0 wd)) ∧ Below w0.heap.size w0 w' := by
  obtain ⟨ti, hi0, hz0, hz1, hz2⟩ := info_parts (show (Tryz.prog.info? 5).map (fun i => (i.zero, i.size, i.bytes)) = some (some (.int .u8 0), 1, 1) by kernel_rfl)
  have mk : ∀ u : World, (Instr.makeSlice 33 (.int .i64 (wd : Int)) (.int .i64 (wd : Int))).run Tryz.prog u = .ok (.slice (some ⟨u.heap.size, 0, none⟩) wd wd) (u.alloc (.cells (bcells (List.replicate wd (0 : UInt8))).toArray 5)) := fun u => by
    have h := run_make (P := Tryz.prog) u 33 5 ti (.int .u8 0) Tryz.underlying33 hi0 hz0 .i64 .i64 (wd : Int) (wd : Int) (by omega) (Int.le_refl _) (by rw [hz2]; omega) (by omega)
    rw [← made_bytes]
    simpa [hz1, Value.cells] using h
  have hm := Mem.nil (fun _ => False) w0
  have HX := Lib.hid hx
  clear hx
  generalize hbz : bcells (List.replicate wd (0 : UInt8)) = bz at mk
  go_enter Tryz.func54, Tryz.ntmps54
  go_wp2_with (first | go_skip | ((with_reducible show wpList _ _ _ _ _ (World.alloc _ _)); refine wpList_up hm ?_; clear hm; intro n w hn hn2 hk hm hd hd2 ho; (try rw [← hn]); replace hn := Nat.le_of_eq hn.symm) | ((first | ((with_reducible show wpList _ _ _ (Oper.mk _ (Op.box _ _) _ _ _ _ :: _) _ _); (refine bxA hm ?_; clear hm; intro n w hn hz hm ho; (try simp only [List.cons_append, List.nil_append] at hm))) | ((with_reducible show wpList _ _ _ (Oper.mk _ (Op.load _ _) _ _ _ _ :: _) _ _); first | (refine ldA hm ?_) | (refine laA hm ?_)) | ((with_reducible show wpList _ _ _ (Oper.mk _ (Op.store _ _ _) _ _ _ _ :: _) _ _); (refine stA hm ?_; clear hm; intro w hz hm ho)) | ((with_reducible show wpList _ _ _ (Oper.mk _ (Op.alloc _) _ _ _ _ :: _) _ _); (refine alA hm ?_; clear hm; intro n w hn hz hm ho; (try simp only [List.cons_append, List.nil_append] at hm)))); try simp only [Act.put, sxQ]))
  replace hm := hm.cons hk (.inr hn2) (fun e he h => hd e he h.symm) hd2
  rw [← hbz, show List.replicate wd (0 : UInt8) = bytK x0 wd 0 by simp [bytK, Jn.bytesOf]] at hm
  clear hk hd hd2 hbz mk
  go_loopg [11] wd (fun j v11 wr => ∃ k, k + j = wd ∧ v11 = .int .i64 (k : Int) ∧ Mem (fun _ => False) w0 wr [⟨n, 5, (bcells (bytK x0 wd k)).toArray⟩] [])
  case atStart => exact ⟨0, by omega, rfl, hm⟩
  case round =>
    clear hm
    obtain ⟨k, hkg, rfl, hm⟩ := hrel
    cases gk with
    | zero =>
      obtain rfl : wd = k := by omega
      have ik : decide ((wd : Int) < (wd : Int)) = false := decide_eq_false (by omega)
      clear hkg
      go_wp2_with (first | go_skip | ((with_reducible show wpList _ _ _ _ _ (World.alloc _ _)); refine wpList_up hm ?_; clear hm; intro n w hn hn2 hk hm hd hd2 ho; (try rw [← hn]); replace hn := Nat.le_of_eq hn.symm) | ((first | ((with_reducible show wpList _ _ _ (Oper.mk _ (Op.box _ _) _ _ _ _ :: _) _ _); (refine bxA hm ?_; clear hm; intro n w hn hz hm ho; (try simp only [List.cons_append, List.nil_append] at hm))) | ((with_reducible show wpList _ _ _ (Oper.mk _ (Op.load _ _) _ _ _ _ :: _) _ _); first | (refine ldA hm ?_) | (refine laA hm ?_)) | ((with_reducible show wpList _ _ _ (Oper.mk _ (Op.store _ _ _) _ _ _ _ :: _) _ _); (refine stA hm ?_; clear hm; intro w hz hm ho)) | ((with_reducible show wpList _ _ _ (Oper.mk _ (Op.alloc _) _ _ _ _ :: _) _ _); (refine alA hm ?_; clear hm; intro n w hn hz hm ho; (try simp only [List.cons_append, List.nil_append] at hm)))); try simp only [Act.put, sxQ]))
      go_ret
      have hb := hm.at_ 0 rfl
      refine ⟨n, rfl, ?_, hm.low⟩
      have e : bytK x0 wd wd = Jn.bytesOf x0 wd := by simp [bytK]
      rw [e] at hb
      have hl := Jn.bytesOf_length x0 wd
      exact ⟨by rw [length_bcells, hl]; omega, Nat.le_refl _, by unfold maxLen; omega, fun _ => ⟨n, _, rfl, hn2, hb, by simp [bcells, hl], List.take_of_length_le (by rw [length_bcells, hl]; omega)⟩⟩
    | succ j =>
      have hk : k < wd := by omega
      have ik : decide ((k : Int) < (wd : Int)) = true := decide_eq_true (by omega)
      have hl := bytK_length x0 wd k (by omega)
      have u1 : IntKind.i64.wrap ((wd : Int) - 1) = (wd : Int) - 1 := IntWalk.i64_in _ (by omega)
      have u2 : IntKind.i64.wrap ((wd : Int) - 1 - (k : Int)) = ((wd - 1 - k : Nat) : Int) := by rw [IntWalk.i64_in _ (by omega)]; omega
      have u3 : IntKind.i64.wrap (8 * (k : Int)) = ((8 * k : Nat) : Int) := by rw [IntWalk.i64_in _ (by omega)]; omega
      have hv : (x0 : Int) / 2 ^ (8 * k) % 256 = ((UInt8.ofNat (x0 / 256 ^ k)).toNat : Int) := by
        rw [UInt8.toNat_ofNat', show (256 : Nat) = 2 ^ 8 by decide, ← Nat.pow_mul]
        rfl
      have hst : spl (bcells (bytK x0 wd k)).toArray (wd - 1 - k) #[Value.int .u8 ((x0 : Int) / 2 ^ (8 * k) % 256)] = (bcells (bytK x0 wd (k + 1))).toArray := by
        rw [hv, spl_bytes _ _ (by omega), bytK_next _ _ _ hk]
      go_wp2_with (first | ((with_reducible show wpList _ _ _ (Oper.mk _ (Op.store _ (Operand.tmp 24) _) _ _ _ _ :: _) _ _); refine stA hm ?_ (hcs := hst) (hin := by simp [length_bcells, hl]; omega); clear hm; intro w hz hm ho; (try simp only [Act.put, sxQ])) | go_skip | ((with_reducible show wpList _ _ _ _ _ (World.alloc _ _)); refine wpList_up hm ?_; clear hm; intro n w hn hn2 hk hm hd hd2 ho; (try rw [← hn]); replace hn := Nat.le_of_eq hn.symm) | ((first | ((with_reducible show wpList _ _ _ (Oper.mk _ (Op.box _ _) _ _ _ _ :: _) _ _); (refine bxA hm ?_; clear hm; intro n w hn hz hm ho; (try simp only [List.cons_append, List.nil_append] at hm))) | ((with_reducible show wpList _ _ _ (Oper.mk _ (Op.load _ _) _ _ _ _ :: _) _ _); first | (refine ldA hm ?_) | (refine laA hm ?_)) | ((with_reducible show wpList _ _ _ (Oper.mk _ (Op.store _ _ _) _ _ _ _ :: _) _ _); (refine stA hm ?_; clear hm; intro w hz hm ho)) | ((with_reducible show wpList _ _ _ (Oper.mk _ (Op.alloc _) _ _ _ _ :: _) _ _); (refine alA hm ?_; clear hm; intro n w hn hz hm ho; (try simp only [List.cons_append, List.nil_append] at hm)))); try simp only [Act.put, sxQ]))
      go_roundg j
      case measure => omega
      case rel => exact ⟨k + 1, by omega, by go_num, hm⟩
end Go.Proofs.YtmhjddmamknglaaGreat
