/-
  The walks of Words and Pack, of the code and of the reference.
-/
import Derived.Test.YtknpppbceogbfaaEccS
import Derived.Test.YtknpppbceogbfaaWds
namespace Go.Proofs.Ytknpppbceogbfaa
open Go.RowKit

def wordsN (n : Int) : Int := if n ≤ 0 then 0 else (n + 2) / 3

set_option maxHeartbeats 1000000 in
theorem ecc_Words (n : Int) (w : World) (hn : n ≤ 9223372036854775807) :
    Calls Try.prog 14 #[.int .i64 n] w fun e w' => e = .returned (.int .i64 (wordsN n)) ∧ w = w' := by
  by_cases h0 : n < 0
  · have e : wordsN n = 0 := by unfold wordsN; rw [if_pos (by omega)]
    rw [e]
    clear e
    go_enter Try.func14, Try.ntmps14
    go_wp2_with fail
    go_ret
    exact ⟨rfl, rfl⟩
  · have i0 : 0 ≤ n := by omega
    have e : Hid (wordsN n = n / 3 + (n % 3 + 3 - 1) / 3) := by unfold wordsN; show _ = _; split <;> omega
    clear h0
    go_enter Try.func14, Try.ntmps14
    go_wp2_with fail
    go_ret
    exact ⟨ret_int (by rw [e.out]), rfl⟩

set_option maxHeartbeats 1000000 in
theorem ref10_Words (n : Int) (w : World) (hn : n ≤ 9223372036854775807) :
    Calls Try.prog 15 #[.int .i64 n] w fun e w' => e = .returned (.int .i64 (wordsN n)) ∧ w = w' := by
  by_cases h0 : n ≤ 0
  · have e : wordsN n = 0 := by unfold wordsN; rw [if_pos (by omega)]
    rw [e]
    clear e
    go_enter Try.func15, Try.ntmps15
    go_wp2_with fail
    go_ret
    exact ⟨rfl, rfl⟩
  · have i0 : 1 ≤ n := by omega
    have e : Hid (wordsN n = (n - 1) / 3 + 1) := by unfold wordsN; show _ = _; rw [if_neg h0]; omega
    have hd : decide (n ≤ 0) = false := by simp; omega
    clear h0
    go_enter Try.func15, Try.ntmps15
    go_wp2_with fail
    go_ret
    exact ⟨ret_int (by rw [e.out]), rfl⟩

/-- Three bytes as a number, the k first of them laid. -/
def chunkK (b : List UInt8) (i k : Nat) : Nat := (List.range k).foldl (fun n j => n * 256 + (b.getD (i + j) 0).toNat) 0
theorem chunkK_succ (b : List UInt8) (i k : Nat) : chunkK b i (k + 1) = chunkK b i k * 256 + (b.getD (i + k) 0).toNat := by simp [chunkK, List.range_succ]
theorem chunkK_lt (b : List UInt8) (i k : Nat) : chunkK b i k < 256 ^ k := by
  induction k with
  | zero => simp [chunkK]
  | succ k ih => rw [chunkK_succ, Nat.pow_succ]; have := (b.getD (i + k) 0).toNat_lt; omega
theorem chunkK_small (b : List UInt8) (i k : Nat) (h : k ≤ 3) : chunkK b i k < 16777216 :=
  Nat.lt_of_lt_of_le (chunkK_lt b i k) (Nat.le_trans (Nat.pow_le_pow_right (by omega) h) (by decide))
def chunk (b : List UInt8) (i : Nat) : Nat := chunkK b i 3
/-- The words of the first k chunks. -/
def packK (b : List UInt8) (k : Nat) : List UInt32 := (List.range k).map fun j => UInt32.ofNat (Ecc.code (chunk b (3 * j)))
def pack (b : List UInt8) : List UInt32 := packK b ((b.length + 2) / 3)
theorem packK_length (b : List UInt8) (k : Nat) : (packK b k).length = k := by simp [packK]
theorem packK_succ (b : List UInt8) (k : Nat) : packK b (k + 1) = packK b k ++ [UInt32.ofNat (Ecc.code (chunk b (3 * k)))] := by simp [packK, List.range_succ]
theorem ofNat_code (n : Nat) : (UInt32.ofNat (Ecc.code n)).toNat = Ecc.code n :=
  UInt32.toNat_ofNat_of_lt' (by have := Ecc.code_lt n; simp only [UInt32.size]; omega)
theorem or_byte (n x : Nat) (h : n < 65536) (hx : x < 256) : bits BinOp.or IntKind.i64 ((n : Int) * 256) (x : Int) = ((n * 256 + x : Nat) : Int) := by
  rw [show (n : Int) * 256 = ((n * 256 : Nat) : Int) by omega, i64_or_nat _ _ (by omega) (by omega), nat_join 8 _ _ (by omega) (by omega)]
theorem u32_info : (Try.prog.info? 22).map (fun i => (i.zero, i.size, i.bytes)) = some (some (.int .u32 0), 1, 4) := by kernel_rfl

set_option maxHeartbeats 2000000 in
theorem ecc_Pack (A : Option Addr) (n c : Nat) (b : List UInt8) (w : World) (h : Byt w w.heap.size A n c b) (hn : n ≤ 1000000) :
    Calls Try.prog 17 #[.slice A n c] w fun e w' => ∃ A2 m c2, e = .returned (.slice A2 m c2) ∧ m = (n + 2) / 3 ∧ Own w' w.heap.size 22 1 A2 m c2 ((pack b).map W32) ∧ Below w.heap.size w w' := by
  obtain ⟨i0, hi0, hz0, hz1, hz2⟩ := info_parts u32_info
  have hl := Lib.hid h.1
  have hr := h.2.2
  clear h
  go_enter Try.func17, Try.ntmps17
  go_wp2_with fail
  go_loopg [3, 4] ((n + 2) / 3) (fun g v i wr => ∃ (k : Nat) (A2 : Option Addr) (c2 : Nat), k + g = (n + 2) / 3 ∧ i = .int .i64 (3 * (k : Int)) ∧ v = .slice A2 k c2 ∧ Own wr w.heap.size 22 1 A2 k c2 ((packK b k).map W32) ∧ Below w.heap.size w wr)
  case atStart => exact ⟨0, none, 0, by omega, rfl, rfl, Own.none_ _ _ _ _ _, Below.refl _ _⟩
  case round =>
    obtain ⟨k, A2, c2, hk, rfl, rfl, hown, hbw⟩ := hrel
    cases gk with
    | zero =>
      have hge : ¬ 3 * (k : Int) < (n : Int) := by omega
      have hkn := Lib.hid (show k = (n + 2) / 3 by omega)
      clear hk
      go_wp2_with fail
      go_ret
      refine ⟨A2, k, c2, rfl, hkn.out, ?_, hbw⟩
      unfold pack
      rw [hl.out, ← hkn.out]
      exact hown
    | succ g =>
      have hlt : decide (3 * (k : Int) < (n : Int)) = true := by simp; omega
      have hpk := Lib.hid (packK_succ b k)
      go_wp2_with fail
      go_loopg [5, 6, 13] 3 (fun g2 v s6 i wx => ∃ j : Nat, j + g2 = 3 ∧ i = .int .i64 j ∧ v = .int .i64 (chunkK b (3 * k) j : Nat) ∧ wr = wx)
      case atStart => exact ⟨0, by omega, rfl, rfl, rfl⟩
      case round =>
        obtain ⟨j, hj, rfl, rfl, rfl⟩ := hrel
        cases gk with
        | zero =>
          obtain rfl : j = 3 := by omega
          have hcl := chunkK_small b (3 * k) 3 (by omega)
          have hck := Lib.hid (show chunkK b (3 * k) 3 = chunk b (3 * k) from rfl)
          go_wp2_with (first
            | (go_at_call 22; refine (ecc_code _ _ hcl).mono ?_; rintro e w1 ⟨rfl, hb1⟩)
            | (at_builtin; refine wpList_append _ rfl (.tmp 34) (.tmp 37) 35 rfl w.heap.size 22 i0 _ 1 4 Try.underlying35 hi0 hz0 hz1 hz2 rfl (by omega) A2 k c2 ((packK b k).map W32) rfl ((hown.below hb1).alloc _) (w1.heap.size + 1) (some ⟨w1.heap.size, 0, none⟩) 1 1 [W32 (UInt32.ofNat (Ecc.code (chunk b (3 * k))))] rfl (Row.new w1 (by rw [hck.out, W32, ofNat_code])) (by simp) (by simp [Value.oneCell']) (by unfold maxLen; omega) (by omega) (by simp; have := hbw.size; have := hb1.size; omega) ?_; intro A3 c3 w4 hown4 hg4 hat4))
          go_roundg g
          case measure => omega
          case rel =>
            refine ⟨k + 1, A3, c3, by omega, by go_num, rfl, ?_, ((hown.below hb1).alloc _).grown hg4 ((hbw.trans (hb1.mono hbw.size)).alloc (by have := hbw.size; have := hb1.size; omega) _) (by simp; have := hbw.size; have := hb1.size; omega)⟩
            rw [hpk.out, List.map_append]
            exact hown4
        | succ g2 =>
          have hcl := chunkK_small b (3 * k) j (by omega)
          have hc2 : chunkK b (3 * k) j < 65536 := Nat.lt_of_lt_of_le (chunkK_lt b (3 * k) j) (Nat.le_trans (Nat.pow_le_pow_right (by omega) (show j ≤ 2 by omega)) (by decide))
          have hs := Lib.hid (chunkK_succ b (3 * k) j)
          have hj3 : (j : Int) < 3 := by omega
          by_cases hin : 3 * k + j < n
          · obtain ⟨bb, o, rfl, hbb, -⟩ := hr.at_ (j := 3 * k + j) (by rw [length_bcells, hl.out]; exact hin)
            have c1 := (hr.below hbw).byte (3 * k + j) (by rw [hl.out]; exact hin)
            have hx := (b.getD (3 * k + j) 0).toNat_lt
            generalize (b.getD (3 * k + j) 0).toNat = x at *
            have hob := or_byte (chunkK b (3 * k) j) x hc2 hx
            have i1 : 3 * (k : Int) + (j : Int) < (n : Int) := by omega
            have i2 : 0 ≤ 3 * (k : Int) + (j : Int) := by omega
            have HO := Lib.hid hob
            clear hob
            go_wp2_with fail
            go_roundg g2
            case measure => omega
            case rel => exact ⟨j + 1, by omega, by go_num, by rw [hs.out, ← HO.out], rfl⟩
          · have hz : Hid (b.getD (3 * k + j) 0 = 0) := by show _ = _; rw [List.getD, List.getElem?_eq_none (by rw [hl.out]; omega)]; rfl
            have i1 : ¬ 3 * (k : Int) + (j : Int) < (n : Int) := by omega
            go_wp2_with fail
            go_roundg g2
            case measure => omega
            case rel => exact ⟨j + 1, by omega, by go_num, by rw [hs.out, hz.out]; exact congrArg (Value.int .i64) (by rw [show (0 : UInt8).toNat = 0 from rfl]; omega), rfl⟩

set_option maxHeartbeats 2000000 in
theorem ref10_Pack (A : Option Addr) (n c : Nat) (b : List UInt8) (w : World) (h : Byt w w.heap.size A n c b) (hn : n ≤ 1000000) :
    Calls Try.prog 18 #[.slice A n c] w fun e w' => ∃ A2 m c2, e = .returned (.slice A2 m c2) ∧ m = (n + 2) / 3 ∧ Own w' w.heap.size 22 1 A2 m c2 ((pack b).map W32) ∧ Below w.heap.size w w' := by
  obtain ⟨i0, hi0, hz0, hz1, hz2⟩ := info_parts u32_info
  have hl := Lib.hid h.1
  have hr := h.2.2
  clear h
  go_enter Try.func18, Try.ntmps18
  go_wp2_with fail
  go_loopg [3, 4] ((n + 2) / 3) (fun g v i wr => ∃ (k : Nat) (A2 : Option Addr) (c2 : Nat), k + g = (n + 2) / 3 ∧ i = .int .i64 (3 * (k : Int)) ∧ v = .slice A2 k c2 ∧ Own wr w.heap.size 22 1 A2 k c2 ((packK b k).map W32) ∧ Below w.heap.size w wr)
  case atStart => exact ⟨0, none, 0, by omega, rfl, rfl, Own.none_ _ _ _ _ _, Below.refl _ _⟩
  case round =>
    obtain ⟨k, A2, c2, hk, rfl, rfl, hown, hbw⟩ := hrel
    cases gk with
    | zero =>
      have hge : ¬ 3 * (k : Int) < (n : Int) := by omega
      have hkn := Lib.hid (show k = (n + 2) / 3 by omega)
      clear hk
      go_wp2_with fail
      go_ret
      refine ⟨A2, k, c2, rfl, hkn.out, ?_, hbw⟩
      unfold pack
      rw [hl.out, ← hkn.out]
      exact hown
    | succ g =>
      have hlt : decide (3 * (k : Int) < (n : Int)) = true := by simp; omega
      have hpk := Lib.hid (packK_succ b k)
      go_wp2_with fail
      go_loopg [5, 6] 3 (fun g2 v i wx => ∃ j : Nat, j + g2 = 3 ∧ i = .int .i64 (3 * (k : Int) + (j : Int)) ∧ v = .int .i64 (chunkK b (3 * k) j : Nat) ∧ wr = wx)
      case atStart => exact ⟨0, by omega, by go_num, rfl, rfl⟩
      case round =>
        obtain ⟨j, hj, rfl, rfl, rfl⟩ := hrel
        cases gk with
        | zero =>
          obtain rfl : j = 3 := by omega
          have hcl := chunkK_small b (3 * k) 3 (by omega)
          have e1 : encW ((chunkK b (3 * k) 3 : Nat) : Int) = Ecc.code (chunk b (3 * k)) := by
            unfold encW; rw [if_pos ⟨by omega, by omega⟩, Int.toNat_natCast]; rfl
          have E1 := Lib.hid e1
          clear e1
          have i9 : ¬ 3 * (k : Int) + ((3 : Nat) : Int) < 3 * (k : Int) + 3 := by omega
          go_wp2_with fail
          refine (ref10_Encode _ _).mono ?_
          rintro e w1 ⟨rfl, rfl⟩
          rw [E1.out]
          generalize encE ((chunkK b (3 * k) 3 : Nat) : Int) = ee at *
          go_wp2_with (first
            | (at_builtin; refine wpList_append _ rfl (.tmp 40) (.tmp 42) 35 rfl w.heap.size 22 i0 _ 1 4 Try.underlying35 hi0 hz0 hz1 hz2 rfl (by omega) A2 k c2 ((packK b k).map W32) rfl (hown.alloc _) (wr.heap.size + 1) (some ⟨wr.heap.size, 0, none⟩) 1 1 [W32 (UInt32.ofNat (Ecc.code (chunk b (3 * k))))] rfl (Row.new wr (by rw [W32, ofNat_code])) (by simp) (by simp [Value.oneCell']) (by unfold maxLen; omega) (by omega) (by simp; have := hbw.size; omega) ?_; intro A3 c3 w4 hown4 hg4 hat4))
          go_roundg g
          case measure => omega
          case rel =>
            refine ⟨k + 1, A3, c3, by omega, by go_num, rfl, ?_, (hown.alloc _).grown hg4 (hbw.alloc hbw.size _) (by simp; have := hbw.size; omega)⟩
            rw [hpk.out, List.map_append]
            exact hown4
        | succ g2 =>
          have hcl := chunkK_small b (3 * k) j (by omega)
          have hc2 : chunkK b (3 * k) j < 65536 := Nat.lt_of_lt_of_le (chunkK_lt b (3 * k) j) (Nat.le_trans (Nat.pow_le_pow_right (by omega) (show j ≤ 2 by omega)) (by decide))
          have hs := Lib.hid (chunkK_succ b (3 * k) j)
          have hj3 : (j : Int) < 3 := by omega
          have i9 : 3 * (k : Int) + (j : Int) < 3 * (k : Int) + 3 := by omega
          by_cases hin : 3 * k + j < n
          · obtain ⟨bb, o, rfl, hbb, -⟩ := hr.at_ (j := 3 * k + j) (by rw [length_bcells, hl.out]; exact hin)
            have c1 := (hr.below hbw).byte (3 * k + j) (by rw [hl.out]; exact hin)
            have hx := (b.getD (3 * k + j) 0).toNat_lt
            generalize (b.getD (3 * k + j) 0).toNat = x at *
            have i1 : 3 * (k : Int) + (j : Int) < (n : Int) := by omega
            have i2 : 0 ≤ 3 * (k : Int) + (j : Int) := by omega
            go_wp2_with fail
            go_roundg g2
            case measure => omega
            case rel => exact ⟨j + 1, by omega, by go_num, by rw [hs.out]; go_num, rfl⟩
          · have hz : Hid (b.getD (3 * k + j) 0 = 0) := by show _ = _; rw [List.getD, List.getElem?_eq_none (by rw [hl.out]; omega)]; rfl
            have i1 : ¬ 3 * (k : Int) + (j : Int) < (n : Int) := by omega
            go_wp2_with fail
            go_roundg g2
            case measure => omega
            case rel => exact ⟨j + 1, by omega, by go_num, by rw [hs.out, hz.out]; exact congrArg (Value.int .i64) (by rw [show (0 : UInt8).toNat = 0 from rfl]; omega), rfl⟩

/-- Equal lists of words. -/
def sameW (a b : List UInt32) : Bool := a == b

set_option maxHeartbeats 1000000 in
theorem law10_sameWords (A A' : Option Addr) (n c n' c' : Nat) (a b : List UInt32) (w : World) (h : Wds w w.heap.size A n c a) (h' : Wds w w.heap.size A' n' c' b) (hn : n ≤ 9223372036854775807) (hab : a = b) :
    Calls Try.prog 16 #[.slice A n c, .slice A' n' c'] w fun e w' => e = .returned (.bool true) ∧ ∃ k, w' = w.drewN k := by
  subst hab
  obtain rfl : n = n' := by rw [← h.1, ← h'.1]
  go_enter Try.func16, Try.ntmps16
  go_wp2_with fail
  go_loopg [5] n (fun g i wr => ∃ k : Nat, k + g = n ∧ i = .int .i64 k ∧ ∃ d, wr = w.drewN d)
  case atStart => exact ⟨0, by omega, rfl, 0, rfl⟩
  case round =>
    obtain ⟨k, hk, rfl, d, rfl⟩ := hrel
    cases gk with
    | zero =>
      obtain rfl : k = n := by omega
      go_wp2_with fail
      go_ret
      exact ⟨rfl, _, rfl⟩
    | succ g =>
      obtain ⟨b1, o1, rfl, hb1, c1⟩ := h.at_ (k := k) (by omega)
      obtain ⟨b2, o2, rfl, hb2, c2⟩ := h'.at_ (k := k) (by omega)
      generalize (a.getD k 0).toNat = x at *
      have i0 : (0 : Int) ≤ (k : Int) := by omega
      have i1 : (k : Int) < (n : Int) := by omega
      go_wp2_with fail
      go_quiet (fail)
      go_wp2_with fail
      go_roundg g
      case measure => omega
      case rel => exact ⟨k + 1, by omega, by go_num, _, by first | rfl | (simp only [World.drewN_drewN]; rfl)⟩
end Go.Proofs.Ytknpppbceogbfaa
