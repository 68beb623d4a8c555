/-
  The walks of the cipher's small functions: what each call returns.
-/
import Derived.Test.YtbmblalbnegglaaRows
import Derived.Test.YtbmblalbnegglaaMem
import Derived.Test.YtbmblalbnegglaaCip
namespace Go.Proofs.Ytbmblalbnegglaa
open Go.RowKit

theorem or_join (i : Nat) (x y : Nat) (hx : x % 2 ^ i = 0) (hy : y < 2 ^ i) (hxx : x < 4294967296) (hyy : y < 4294967296) : bits .or .u32 (x : Int) (y : Int) = ((x + y : Nat) : Int) := by
  rw [u32_or_nat x y hxx hyy, nat_join i x y hx hy]

theorem cip_num_eq (a b c d : UInt8) :
    bits BinOp.or IntKind.u32 (bits BinOp.or IntKind.u32 (bits BinOp.or IntKind.u32 ((a.toNat : Int) % 4294967296 * 16777216 % 4294967296) ((b.toNat : Int) % 4294967296 * 65536 % 4294967296)) ((c.toNat : Int) % 4294967296 * 256 % 4294967296)) ((d.toNat : Int) % 4294967296) =
      ((a.toNat * 16777216 + b.toNat * 65536 + c.toNat * 256 + d.toNat : Nat) : Int) := by
  have h0 := a.toNat_lt
  have h1 := b.toNat_lt
  have h2 := c.toNat_lt
  have h3 := d.toNat_lt
  have e0 : ((a.toNat : Int) % 4294967296 * 16777216 % 4294967296) = ((a.toNat * 16777216 : Nat) : Int) := by omega
  have e1 : ((b.toNat : Int) % 4294967296 * 65536 % 4294967296) = ((b.toNat * 65536 : Nat) : Int) := by omega
  have e2 : ((c.toNat : Int) % 4294967296 * 256 % 4294967296) = ((c.toNat * 256 : Nat) : Int) := by omega
  have e3 : ((d.toNat : Int) % 4294967296) = ((d.toNat : Nat) : Int) := by omega
  rw [e0, e1, e2, e3, or_join 24 _ _ (by omega) (by omega) (by omega) (by omega), or_join 16 _ _ (by omega) (by omega) (by omega) (by omega), or_join 8 _ _ (by omega) (by omega) (by omega) (by omega)]

set_option maxHeartbeats 400000 in
theorem cipher_number (b o n c : Nat) (bs : List UInt8) (B : Nat) (w : World) (hn : (4 : Int) ≤ n) (hl : 4 ≤ bs.length) (hr : Row w B (some ⟨b, o, none⟩) (bcells bs)) :
    Calls Try.prog 53 #[.slice (some ⟨b, o, none⟩) n c] w fun e w' => e = .returned (.int .u32 ((Cip.num bs).toNat : Int)) ∧ ∃ k, w' = w.drewN k := by
  have c0 := hr.byte 0 (by omega)
  have c1 := hr.byte 1 (by omega)
  have c2 := hr.byte 2 (by omega)
  have c3 := hr.byte 3 (by omega)
  have hfin := cip_num_eq (bs.getD 0 0) (bs.getD 1 0) (bs.getD 2 0) (bs.getD 3 0)
  rw [← Cip.num_toNat] at hfin
  have HF := Lib.hid hfin
  clear hfin hr
  rw [Nat.add_zero] at c0
  generalize bs.getD 0 0 = x0 at *
  generalize bs.getD 1 0 = x1 at *
  generalize bs.getD 2 0 = x2 at *
  generalize bs.getD 3 0 = x3 at *
  go_enter Try.func53, Try.ntmps53
  go_wp2
  go_quiet (fail)
  go_wp2
  go_ret
  exact ⟨congrArg (fun x => Ending.returned (.int .u32 x)) HF.out, _, rfl⟩

theorem cip_num_eq' (a b c d : UInt8) :
    ((((a.toNat : Int) % 4294967296 * 16777216 % 4294967296 + (b.toNat : Int) % 4294967296 * 65536 % 4294967296) % 4294967296 + (c.toNat : Int) % 4294967296 * 256 % 4294967296) % 4294967296 + (d.toNat : Int) % 4294967296) % 4294967296 =
      ((a.toNat * 16777216 + b.toNat * 65536 + c.toNat * 256 + d.toNat : Nat) : Int) := by
  have h0 := a.toNat_lt
  have h1 := b.toNat_lt
  have h2 := c.toNat_lt
  have h3 := d.toNat_lt
  omega

set_option maxHeartbeats 400000 in
theorem ref19_number (b o n c : Nat) (bs : List UInt8) (B : Nat) (w : World) (hn : (4 : Int) ≤ n) (hl : 4 ≤ bs.length) (hr : Row w B (some ⟨b, o, none⟩) (bcells bs)) :
    Calls Try.prog 48 #[.slice (some ⟨b, o, none⟩) n c] w fun e w' => e = .returned (.int .u32 ((Cip.num bs).toNat : Int)) ∧ ∃ k, w' = w.drewN k := by
  have c0 := hr.byte 0 (by omega)
  have c1 := hr.byte 1 (by omega)
  have c2 := hr.byte 2 (by omega)
  have c3 := hr.byte 3 (by omega)
  have HF := Lib.hid (Cip.num_toNat bs)
  clear hr
  rw [Nat.add_zero] at c0
  generalize bs.getD 0 0 = x0 at *
  generalize bs.getD 1 0 = x1 at *
  generalize bs.getD 2 0 = x2 at *
  generalize bs.getD 3 0 = x3 at *
  go_enter Try.func48, Try.ntmps48
  go_wp2
  go_quiet (fail)
  go_wp2
  go_ret
  refine ⟨ret_int ?_, _, rfl⟩
  rw [HF.out]
  have h0 := x0.toNat_lt
  have h1 := x1.toNat_lt
  have h2 := x2.toNat_lt
  have h3 := x3.toNat_lt
  omega

theorem u32_mix (x k : UInt32) :
    bits BinOp.xor IntKind.u32 (((x.toNat : Int) + (k.toNat : Int)) % 4294967296 * 2654435761 % 4294967296) (((x.toNat : Int) + (k.toNat : Int)) % 4294967296 * 2654435761 % 4294967296 / 32768) * 2246822519 % 4294967296 = ((Cip.mixF x k).toNat : Int) := by
  have h0 := x.toNat_lt
  have h1 := k.toNat_lt
  have e : ((x.toNat : Int) + (k.toNat : Int)) % 4294967296 * 2654435761 % 4294967296 = (((x + k) * 2654435761 : UInt32).toNat : Int) := by
    rw [UInt32.toNat_mul, UInt32.toNat_add]
    show _ = (((x.toNat + k.toNat) % 4294967296 * 2654435761 % 4294967296 : Nat) : Int)
    omega
  rw [e]
  have h2 := ((x + k) * 2654435761 : UInt32).toNat_lt
  unfold Cip.mixF
  generalize (x + k) * 2654435761 = t at *
  have e2 : (t.toNat : Int) / (32768 : Int) = ((t >>> 15).toNat : Int) := by
    rw [UInt32.toNat_shiftRight]
    show _ = ((t.toNat >>> 15 : Nat) : Int)
    rw [Nat.shiftRight_eq_div_pow]
    omega
  have h3 := (t >>> 15).toNat_lt
  rw [e2, u32_xor_nat _ _ (by omega) (by omega)]
  show _ = (((t ^^^ t >>> 15) * 2246822519 : UInt32).toNat : Int)
  rw [UInt32.toNat_mul, UInt32.toNat_xor]
  show _ = (((t.toNat ^^^ (t >>> 15).toNat) * 2246822519 % 4294967296 : Nat) : Int)
  omega

set_option maxHeartbeats 400000 in
theorem cipher_f (x k : UInt32) (w : World) :
    Calls Try.prog 54 #[.int .u32 (x.toNat : Int), .int .u32 (k.toNat : Int)] w fun e w' => e = .returned (.int .u32 ((Cip.mixF x k).toNat : Int)) ∧ w' = w := by
  have HF := Lib.hid (u32_mix x k)
  go_enter Try.func54, Try.ntmps54
  go_wp2
  go_ret
  exact ⟨congrArg (fun x => Ending.returned (.int .u32 x)) HF.out, rfl⟩

set_option maxHeartbeats 400000 in
theorem ref19_mix (x k : UInt32) (w : World) :
    Calls Try.prog 49 #[.int .u32 (x.toNat : Int), .int .u32 (k.toNat : Int)] w fun e w' => e = .returned (.int .u32 ((Cip.mixF x k).toNat : Int)) ∧ w' = w := by
  have HF := Lib.hid (u32_mix x k)
  go_enter Try.func49, Try.ntmps49
  go_wp2
  go_ret
  exact ⟨congrArg (fun x => Ending.returned (.int .u32 x)) HF.out, rfl⟩

set_option maxHeartbeats 400000 in
theorem ref19_round (b o c : Nat) (key : List UInt8) (i' : Int) (i : Nat) (hi' : i' = (i : Int)) (hi : i < 16) (B : Nat) (w : World) (hk : key.length = 16) (hc : 16 ≤ c) (hr : Row w B (some ⟨b, o, none⟩) (bcells key)) :
    Calls Try.prog 50 #[.slice (some ⟨b, o, none⟩) 16 c, .int .i64 i'] w fun e w' => e = .returned (.int .u32 ((Cip.rk key i).toNat : Int)) ∧ ∃ k, w' = w.drewN k := by
  subst hi'
  go_enter Try.func50, Try.ntmps50
  go_wp2_with fail
  refine (ref19_number b (o + 4 * (i % 4)) 4 _ (key.drop (4 * (i % 4))) B _ (by omega) (by simp; omega) (hr.bdrop _)).mono ?_
  rintro e w1 ⟨rfl, k, rfl⟩
  go_wp2
  go_ret
  refine ⟨ret_int ?_, _, rfl⟩
  unfold Cip.rk
  rw [UInt32.toNat_add, UInt32.toNat_mul, UInt32.toNat_ofNat_of_lt' (by simp only [UInt32.size]; omega)]
  show _ = (((Cip.num (key.drop (4 * (i % 4)))).toNat + i * 2654435769 % 4294967296 : Nat) % 4294967296 : Int)
  omega

/-- The array of the round keys when k of them are there. -/
def karr (key : List UInt8) (k : Nat) : Array Value := ((List.range 16).map fun j => W32 (if j < k then Cip.rk key j else 0)).toArray
theorem karr_size (key : List UInt8) (k : Nat) : (karr key k).size = 16 := by simp [karr]
theorem karr_one (key : List UInt8) (k : Nat) : (karr key k).all (·.oneCell') = true := by simp [karr, Value.oneCell']
theorem karr_set (key : List UInt8) (k : Nat) : (karr key k).setIfInBounds k (W32 (Cip.rk key k)) = karr key (k + 1) := by
  apply Array.ext_getElem?
  intro i
  simp only [karr, List.setIfInBounds_toArray, List.getElem?_toArray, List.getElem?_set, List.getElem?_map, List.length_map, List.length_range]
  by_cases hi : i < 16
  · rw [List.getElem?_range hi]
    by_cases e : k = i
    · subst e; simp [hi]
    · by_cases h : i < k
      · simp [e, h, show i < k + 1 by omega]
      · simp [e, h, show ¬ i < k + 1 by omega]
  · rw [List.getElem?_eq_none (by simp; omega)]
    by_cases e : k = i
    · subst e; simp [hi]
    · simp [e]

set_option maxHeartbeats 400000 in
theorem cipher_roundKeys (b o c : Nat) (key : List UInt8) (w : World) (hk : key.length = 16) (hc : 16 ≤ c) (hr : Row w w.heap.size (some ⟨b, o, none⟩) (bcells key)) :
    Calls Try.prog 51 #[.slice (some ⟨b, o, none⟩) 16 c] w fun e w' => e = .returned (.agg (karr key 16)) ∧ Below w.heap.size w w' := by
  have Hk := Lib.hid hk
  go_enter Try.func51, Try.ntmps51
  go_wp2_with fail
  go_loopw [6] (fun i wr => ∃ k : Nat, k ≤ 16 ∧ i = .int .i64 k ∧ Blk wr w.heap.size 53 (karr key 0) ∧ Blk wr (w.heap.size + 1) 53 (karr key k) ∧ Below w.heap.size w wr) (fun i _ => 16 - (intOf i).toNat)
  case atStart =>
    exact ⟨0, by omega, rfl, (Blk.new' _ rfl rfl).alloc _, Blk.new' _ (by simp) rfl, ((Below.refl _ _).alloc (Nat.le_refl _) _).alloc (by simp) _⟩
  case round =>
    obtain ⟨k, hk16, rfl, hb1, hb2, hbel⟩ := hrel
    by_cases hlt : k < 16
    · have hf := hb2.frozen k
      obtain ⟨v0, hcl⟩ := hb2.has k (by simp [karr]; omega)
      have hrk : Calls Try.prog 53 #[.slice (some ⟨b, o + k % 4 * 4, none⟩) 4 (c - k % 4 * 4)] wr fun e w' => e = .returned (.int .u32 ((Cip.num (key.drop (k % 4 * 4))).toNat : Int)) ∧ ∃ k, w' = wr.drewN k :=
        cipher_number _ _ 4 _ _ w.heap.size wr (by omega) (by simp; omega) ((hr.below hbel).bdrop _)
      have HR := Lib.hid hrk
      clear hrk
      go_wp2_with (go_at_call 53; refine HR.out.mono ?_; rintro e w1 ⟨rfl, k1, rfl⟩)
      go_roundw
      case rel =>
        have hv : ((Cip.num (key.drop (k % 4 * 4))).toNat + (k : Int) * 2654435769) % 4294967296 = ((Cip.rk key k).toNat : Int) := by
          unfold Cip.rk
          rw [UInt32.toNat_add, UInt32.toNat_mul, UInt32.toNat_ofNat_of_lt' (by simp only [UInt32.size]; omega), Nat.mul_comm 4]
          show _ = (((Cip.num (key.drop (k % 4 * 4))).toNat + k * 2654435769 % 4294967296 : Nat) % 4294967296 : Int)
          omega
        rw [hv]
        refine ⟨k + 1, by omega, by go_num, (hb1.drewN k1).far (by simp) _, ?_, (Below.drewN hbel _).setCell (by simp) _⟩
        rw [← karr_set]
        exact (hb2.drewN k1).set k _
      case measure => simp [intOf]; omega
    · obtain rfl : k = 16 := by omega
      have hss : (karr key 0).size = (karr key 16).size := by rw [karr_size, karr_size]
      have hone := karr_one key 16
      have hsz : (Try.prog.info? 53).map (·.size) = some 16 := by kernel_rfl
      go_wp2_with (first
        | ((with_reducible show wpList _ _ _ (Oper.mk _ (Op.load 53 (Operand.tmp 3)) _ _ _ _ :: _) _ _); refine wpList_load_row rfl 53 (.tmp 3) rfl (w.heap.size + 1) rfl 53 (karr key 16) (0, 0) _ hb2 Try.underlying53 rfl hsz ?_)
        | ((with_reducible show wpList _ _ _ (Oper.mk _ (Op.store 53 (Operand.tmp 2) (Operand.tmp 25)) _ _ _ _ :: _) _ _); refine wpList_store_row rfl 53 (.tmp 2) (.tmp 25) rfl w.heap.size (karr key 16) rfl rfl 53 (karr key 0) hb1 hsz hss hone ?_))
      have hb3 := hb1.setRow (karr key 16)
      refine bodyPost_ret (v := .agg (karr key 16)) (results_cell_row rfl _ _ w.heap.size 53 _ (0, 0) _ rfl hb3 Try.underlying53 rfl (by kernel_rfl)) rfl ⟨rfl, Below.setRow hbel (Nat.le_refl _) _⟩
end Go.Proofs.Ytbmblalbnegglaa
