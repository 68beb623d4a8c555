/-
  The walk of the statement CellWears.
-/
import Derived.Test.YtdpfehdpglbidaaCelW
import Derived.Test.YtdpfehdpglbidaaWds
namespace Go.Proofs.Ytdpfehdpglbidaa
open Go.RowKit

/-- What holds of the memory after k writes to word a. -/
structure Worn (m : Cel.Mem) (k a : Nat) (en : Int) : Prop where
  off : m.off = false
  pending : m.pending = false
  wear : m.wear.getD a 0 = k
  len : m.wear.length = 256
  lenw : m.words.length = 256
  en : m.endurance = en
  fine : Cel.Fine k m

theorem Worn.next {m : Cel.Mem} {k a : Nat} {en : Int} (h : Worn m k a en) (ha : a < 256) (v : UInt32) :
    (m.write a v).2 = 0 ∧ Worn (m.write a v).1 (k + 1) a en ∧ (m.write a v).1.read a = (if en < (k : Int) + 1 then v ^^^ Cel.bit a else v, 0) := by
  have hacc : m.access (a : Int) = 0 := (m.access_zero _).2 ⟨h.off, (m.has_iff _).2 ⟨by omega, by rw [h.lenw]; omega⟩⟩
  have hw := m.write_yes a v hacc (by rw [h.pending]; simp)
  rw [hw]
  have ht := m.tick_no h.pending
  rw [ht, Int.toNat_natCast]
  have hf := h.fine.put (by omega) a v
  refine ⟨rfl, ⟨h.off, h.pending, ?_, ?_, ?_, h.en, by exact hf⟩, ?_⟩
  · show (m.wear.set a _).getD a 0 = _
    rw [h.wear]
    simp [List.getD, h.len, ha]
  · show (m.wear.set a _).length = _
    rw [List.length_set, h.len]
  · show (m.words.set a _).length = _
    rw [List.length_set, h.lenw]
  · have hacc2 : (m.put a v).access (a : Int) = 0 := (Cel.Mem.access_zero _ _).2 ⟨h.off, (Cel.Mem.has_iff _ _).2 ⟨by omega, by
      show (a : Int) < ((m.words.set a _).length : Nat)
      rw [List.length_set, h.lenw]; omega⟩⟩
    unfold Cel.Mem.read
    rw [if_neg (by rw [hacc2]; simp), Int.toNat_natCast]
    show ((m.words.set a (if m.endurance < m.wear.getD a 0 + 1 then v ^^^ Cel.bit a else v)).getD a 0, (0 : Int)) = _
    rw [h.wear, h.en]
    simp [List.getD, h.lenw, ha]

theorem worn_new (a : Nat) (en : Int) : Worn (Cel.Mem.new 256 en) 0 a en := by
  have h : ∀ n : Nat, (List.replicate n (0 : Int)).getD a 0 = 0 := fun n => by
    simp only [List.getD, List.getElem?_replicate]; split <;> rfl
  exact ⟨rfl, rfl, h 256, List.length_replicate, List.length_replicate, rfl, Cel.fine_new _ _⟩
theorem bit_nz (a : Nat) : (((Cel.bit a).toNat : Int) == 0) = false := by
  rw [bit_eq]
  have : (0 : Int) < 2 ^ (a % 32) := Int.pow_pos (by omega)
  simp; omega
theorem bit_and (a : Nat) : bits BinOp.and IntKind.u32 ((Cel.bit a).toNat : Int) ((((Cel.bit a).toNat : Int) - 1) % 4294967296) = 0 := by
  have h := (Cel.bit a).toNat_lt
  have e : (Cel.bit a).toNat = 2 ^ (a % 32) := by have := bit_eq a; exact_mod_cast this
  have hp : 0 < 2 ^ (a % 32) := Nat.pow_pos (by omega)
  have e2 : (((Cel.bit a).toNat : Int) - 1) % 4294967296 = ((2 ^ (a % 32) - 1 : Nat) : Int) := by rw [e]; omega
  rw [e2, u32_and_nat _ _ h (by omega), e, Nat.and_two_pow_sub_one_eq_mod]
  simp

set_option maxRecDepth 100000 in
set_option maxHeartbeats 2000000 in
theorem law_CellWears (x a : Nat) (A : Option Addr) (n c : Nat) (ws : List UInt32) (w : World) (hx : x < 256) (ha : a < 256) (hs : Wds w w.heap.size A n c ws) :
    Calls Try.prog 3 #[.int .u8 (x : Int), .int .u8 (a : Int), .slice A n c] w fun e w' => e = .returned (.bool true) ∧ Below w.heap.size w w' := by
  by_cases h0 : 50 < n
  · go_enter Try.func3, Try.ntmps3
    go_wp2_with fail
    go_ret
    exact ⟨rfl, Below.refl _ _⟩
  go_enter Try.func3, Try.ntmps3
  go_wp2_with fail
  have e1 : 1 ≤ 1 + (x : Int) % 40 := by omega
  have e2 : 1 + (x : Int) % 40 ≤ 40 := by omega
  generalize 1 + (x : Int) % 40 = en at *
  refine (cell_New 256 en w (by omega) (by omega) (by omega)).mono ?_
  rintro e w1 ⟨g, gw, gv, rfl, hm, h1, h2, h3, hb⟩
  have hs1 := hs.below hb
  go_wp2_with fail
  go_loopw [10] (fun i wr => ∃ (k : Nat) (m : Cel.Mem), k ≤ n ∧ i = .int .i64 k ∧ Worn m k a en ∧ MemAt wr g gw gv 256 256 256 m ∧ Only (MemR g gw gv) w1 wr) (fun i _ => n - (intOf i).toNat)
  case atStart => exact ⟨0, _, by omega, rfl, worn_new a en, hm, Only.refl _ _⟩
  case round =>
    obtain ⟨k, m, hk, rfl, hwn, hma, ho⟩ := hrel
    have hbw : Below w.heap.size w1 wr := ho.below hb.size (fun q hq hr => by rcases hr with rfl | rfl | rfl <;> omega)
    by_cases hlt : k < n
    · obtain ⟨b, o, rfl, hbl, hc⟩ := (hs1.below hbw).at_ hlt
      generalize ws.getD k 0 = v at *
      obtain ⟨he, hn, hr⟩ := hwn.next ha v
      have p0 : (0 : Int) ≤ (k : Int) := by omega
      have p1 : (k : Int) < (n : Int) := by omega
      have He := Lib.hid he
      have Hr := Lib.hid hr
      clear he hr
      go_wp2_with fail
      refine (cell_Write hma a _ v rfl hwn.fine (by omega)).mono ?_
      rintro e w2 ⟨rfl, hm2, ho2⟩
      rw [He.out]
      have hc2 : w2.cell? ⟨b, o + k, none⟩ = some (.int .u32 (v.toNat : Int)) := (((ho2.below (Nat.le_trans hb.size ho.size) (fun q hq hr => by rcases hr with rfl | rfl | rfl <;> omega) : Below w.heap.size wr w2)).cell (p := ⟨b, o + k, none⟩) hbl).trans hc
      go_wp2_with fail
      refine (cell_Read hm2 a).mono ?_
      rintro e w3 ⟨rfl, rfl⟩
      rw [Hr.out]
      by_cases hlate : en < (k : Int) + 1
      · rw [if_pos hlate]
        have z1 := bit_nz a
        have z2 := bit_and a
        have z3 : bits BinOp.xor IntKind.u32 ((v ^^^ Cel.bit a).toNat : Int) (v.toNat : Int) = ((Cel.bit a).toNat : Int) := by
          rw [u32_xor_nat _ _ (v ^^^ Cel.bit a).toNat_lt v.toNat_lt, ← UInt32.toNat_xor]
          congr 2
          rw [UInt32.xor_comm v, UInt32.xor_assoc, UInt32.xor_self, UInt32.xor_zero]
        have hd : ¬ (k : Int) < en := by omega
        generalize v ^^^ Cel.bit a = r at *
        generalize (Cel.bit a).toNat = q at *
        go_wp2_with fail
        go_roundw
        case rel => exact ⟨k + 1, _, by omega, by go_num, hn, hm2, ho.trans ho2⟩
        case measure => simp [intOf]; omega
      · rw [if_neg hlate]
        have z3 : bits BinOp.xor IntKind.u32 (v.toNat : Int) (v.toNat : Int) = 0 := by
          rw [u32_xor_nat _ _ v.toNat_lt v.toNat_lt, Nat.xor_self]; rfl
        have hd : (k : Int) < en := by omega
        go_wp2_with fail
        go_roundw
        case rel => exact ⟨k + 1, _, by omega, by go_num, hn, hm2, ho.trans ho2⟩
        case measure => simp [intOf]; omega
    · obtain rfl : k = n := by omega
      have hwe : m.wearOf (a : Int) = k := by
        unfold Cel.Mem.wearOf
        rw [if_pos ((m.has_iff _).2 ⟨by omega, by rw [hwn.lenw]; omega⟩), Int.toNat_natCast, hwn.wear]
      have HW := Lib.hid hwe
      clear hwe
      go_wp2_with (first
        | (go_at_call 11; refine (cell_Wear hma a).mono ?_; rintro e w2 ⟨rfl, rfl⟩; rw [HW.out])
        | (go_at_call 12; refine (law09_awake _).mono ?_; rintro e w2 ⟨rfl, hb2⟩))
      go_ret
      exact ⟨by simp, (hb.trans hbw).trans (hb2.mono (hb.trans hbw).size)⟩
end Go.Proofs.Ytdpfehdpglbidaa
