/-
  The journal: numbers as bytes.
-/
import Derived.Test.YtmhjddmamknglaaGreatJnA
namespace Go.Proofs.YtmhjddmamknglaaGreat
set_option maxRecDepth 100000
set_option linter.unusedSimpArgs false
set_option linter.unusedVariables false
open Go.RowKit
set_option maxHeartbeats 8000000

theorem or_num (n x : Nat) (h : n * 256 + x < 2 ^ 63) (hx : x < 256) : bits BinOp.or IntKind.i64 (wrap64 ((n : Int) * 256)) (x : Int) = ((n * 256 + x : Nat) : Int) := by
  rw [IntWalk.wrap64_in _ (by omega), show ((n : Int) * 256) = ((n * 256 : Nat) : Int) by omega, i64_or_nat _ _ (by omega) (by omega)]
  have e : n * 256 + x = n * 256 ||| x := by
    have := Nat.shiftLeft_add_eq_or_of_lt (i := 8) (b := x) (by omega) n
    rw [Nat.shiftLeft_eq] at this
    exact this
  rw [e]
theorem jn_number (A : Option Addr) (n c : Nat) (b : List UInt8) (w : World) (hb : Byt w w.heap.size A n c b) (hn : Jn.num b < 2 ^ 63) (h8 : n ≤ 8) :
    Calls Tryz.prog 45 #[.slice A n c] w fun e w' => e = .returned (.int .i64 (Jn.num b : Int)) ∧ w' = w := by
  have HB := Lib.hid hb
  have HN := Lib.hid hn
  have hbl := Lib.hid hb.1
  clear hb hn
  go_enter Tryz.func45, Tryz.ntmps45
  go_wp2_with fail
  go_loopg [3, 8] n (fun g v3 v8 wr => ∃ k, k + g = n ∧ v8 = .int .i64 (k : Int) ∧ v3 = .int .i64 (Jn.num (b.take k) : Int) ∧ w = wr)
  case atStart => exact ⟨0, by omega, rfl, rfl, rfl⟩
  case round =>
    obtain ⟨k, hkg, rfl, rfl, rfl⟩ := hrel
    cases gk with
    | zero =>
      obtain rfl : n = k := by omega
      have ik : decide ((n : Int) < (n : Int)) = false := decide_eq_false (by omega)
      clear hkg
      go_wp2_with fail
      go_ret
      rw [List.take_of_length_le (by rw [hbl.out]; exact Nat.le_refl _)]
      exact ⟨rfl, rfl⟩
    | succ j =>
      have hk : k < n := by omega
      have ik : decide ((k : Int) < (n : Int)) = true := decide_eq_true (by omega)
      obtain ⟨bb, oo, hA, hlt⟩ := HB.out.at_ (by omega)
      have hce := Byt.cellAt HB.out hA hk
      subst hA
      have hkl : k < b.length := by rw [hbl.out]; exact hk
      have hstep : Jn.num (b.take (k + 1)) = Jn.num (b.take k) * 256 + (b.getD k 0).toNat := by
        rw [List.take_add_one, List.getElem?_eq_getElem hkl, Option.toList_some, Jn.num_snoc, Jn.getD_eq hkl]
      have hmono : Jn.num (b.take (k + 1)) ≤ Jn.num b := by
        have e := congrArg Jn.num (List.take_append_drop (k + 1) b)
        unfold Jn.num at e ⊢
        rw [List.foldl_append] at e
        have := Jn.num_acc (b.drop (k + 1)) ((b.take (k + 1)).foldl (fun n x => n * 256 + x.toNat) 0)
        rw [← e, this]
        have h1 : 1 ≤ 256 ^ (b.drop (k + 1)).length := Nat.one_le_pow _ _ (by omega)
        have h2 := Nat.mul_le_mul_left ((b.take (k + 1)).foldl (fun n x => n * 256 + x.toNat) 0) h1
        omega
      have HS := Lib.hid hstep
      have hlt := HN.out
      have hy := (b.getD k 0).toNat_lt
      generalize (b.getD k 0) = y at *
      generalize hV : Jn.num (b.take k) = V at *
      generalize hV2 : Jn.num (b.take (k + 1)) = V2 at *
      have HV2 := Lib.hid hV2
      clear hV hV2 hstep hkl
      have u1 : IntKind.i64.wrap (y.toNat : Int) = (y.toNat : Int) := IntWalk.i64_in _ (by omega)
      go_wp2_with fail
      go_roundg j
      case measure => omega
      case rel => exact ⟨k + 1, by omega, by go_num, by rw [HV2.out, HS.out, or_num _ _ (by rw [← HS.out]; exact Nat.lt_of_le_of_lt hmono hlt) hy], rfl⟩
end Go.Proofs.YtmhjddmamknglaaGreat
