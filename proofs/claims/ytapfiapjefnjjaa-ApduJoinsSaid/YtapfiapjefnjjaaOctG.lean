/-
  The walks of the library's order of strings of bytes, and of the reference's order and lists.
-/
import Derived.Test.YtapfiapjefnjjaaOctF
import Derived.Lib.BytesEntry
import Derived.Lib.Bytealg
namespace Go.Proofs.Ytapfiapjefnjjaa
open Go.RowKit

theorem cmpB_eq : ∀ (a b : List UInt8), Lib.compareBytes a b = Oct.cmp a b
  | [], [] => rfl
  | [], _ :: _ => rfl
  | _ :: _, [] => rfl
  | x :: a, y :: b => by
    simp only [Lib.compareBytes, Oct.cmp, UInt8.lt_iff_toNat_lt]
    rw [cmpB_eq a b]
theorem same_beq (a b : List UInt8) : (a == b) = Oct.same a b := by
  rw [Bool.eq_iff_iff, Oct.same_iff, beq_iff_eq]
theorem byt_bytesOf {P : Program} {w : World} {B : Nat} {A : Option Addr} {n c : Nat} {bs : List UInt8} (h : Byt w B A n c bs) : (Extern.Bytes.bytesOf (.slice A n c)).run P w = .ok ⟨bs.toArray⟩ w := by
  cases A with
  | none =>
    have hb : bs = [] := by
      rcases Nat.eq_zero_or_pos n with h0 | h0
      · exact List.eq_nil_of_length_eq_zero (by rw [h.1]; exact h0)
      · obtain ⟨b, o, e, _⟩ := h.at_ h0; cases e
    subst hb
    rfl
  | some a =>
    have hl := Lib.run_loadBytesX (P := P) w (bs.map fun b => (b.toNat : Int)) a .empty (fun j x hj => by
      have hjl : j < bs.length := by have := (List.getElem?_eq_some_iff.1 hj).1; simpa using this
      obtain ⟨b, o, e, _, hc⟩ := h.2.2 (by rw [length_bcells]; omega)
      obtain rfl : a = ⟨b, o, none⟩ := by simpa using e
      rw [add_eq, hc j (by rw [length_bcells]; exact hjl), bcells_get]
      rw [List.getElem?_map] at hj
      rw [List.getElem?_eq_getElem hjl] at hj ⊢
      simp at hj
      simp [B8, hj])
    rw [List.length_map, h.1] at hl
    show (Extern.Bytes.loadBytes a n .empty).run P w = _
    rw [hl]
    congr 1
    apply ByteArray.ext
    have e1 : Lib.bytesOf (bs.map fun b => (b.toNat : Int)) = bs := by
      unfold Lib.bytesOf
      rw [List.map_map, List.map_congr_left (g := id)]
      · simp
      · intro b _; simp
    rw [e1]
    show (#[] : Array UInt8) ++ bs.toArray = _
    simp
theorem run_cmp {P : Program} {w : World} {B B' : Nat} {A A' : Option Addr} {n n' c c' : Nat} {a b : List UInt8} (h : Byt w B A n c a) (h' : Byt w B' A' n' c' b) :
    (Extern.BytealgCompare.compare #[.slice A n c, .slice A' n' c']).run P w = .ok (.int .i64 (Oct.cmp a b)) w := by
  show Sem.run P (do pure (goInt (Extern.BytealgCompare.cmp (← Extern.Bytes.bytesOf (.slice A n c)) (← Extern.Bytes.bytesOf (.slice A' n' c'))))) w = _
  simp only [Sem.run_bind, byt_bytesOf h, byt_bytesOf h', Result.andThen]
  rw [Lib.cmp_eq, cmpB_eq]
  rfl

set_option maxHeartbeats 1000000 in
theorem bytes_Equal (A A' : Option Addr) (n n' c c' : Nat) (a b : List UInt8) (w : World) (h : Byt w w.heap.size A n c a) (h' : Byt w w.heap.size A' n' c' b) :
    Calls Try.prog 46 #[.slice A n c, .slice A' n' c'] w fun e w' => e = .returned (.bool (Oct.same a b)) ∧ w = w' := by
  have h1 := byt_string (P := Try.prog) 22 5 Try.underlying22 Try.underlying5 h 9 Try.underlying9
  have h2 := byt_string (P := Try.prog) 22 5 Try.underlying22 Try.underlying5 h' 9 Try.underlying9
  go_enter Try.func46, Try.ntmps46
  go_wp2_with fail
  go_ret
  exact ⟨by rw [← same_beq]; rfl, rfl⟩

def begins (b p : List UInt8) : Bool := decide (p.length ≤ b.length) && Oct.same (b.take p.length) p

end Go.Proofs.Ytapfiapjefnjjaa
