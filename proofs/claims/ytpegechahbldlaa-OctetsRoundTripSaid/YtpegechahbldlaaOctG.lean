/-
  The walks of the library's order of strings of bytes, and of the reference's order and lists.
-/
import Derived.Test.YtpegechahbldlaaOctF
import Derived.Lib.BytesEntry
import Derived.Lib.Bytealg
namespace Go.Proofs.Ytpegechahbldlaa
open Go.RowKit

theorem cmpB_eq : ∀ (a b : List UInt8), Lib.compareBytes a b = Oct.cmp a b
  | [], [] => rfl
  | [], _ :: _ => rfl
  | _ :: _, [] => rfl
  | x :: a, y :: b => by
    simp only [Lib.compareBytes, Oct.cmp, UInt8.lt_iff_toNat_lt]
    rw [cmpB_eq a b]
theorem same_beq (a b : List UInt8) : (a == b) = Oct.same a b := by
  rw [Bool.eq_iff_iff, Oct.same_iff, beq_iff_eq]
theorem byt_bytesOf {P : Program} {w : World} {B : Nat} {A : Option Addr} {n c : Nat} {bs : List UInt8} (h : Byt w B A n c bs) : (Extern.Bytes.bytesOf (.slice A n c)).run P w = .ok ⟨bs.toArray⟩ w := by
  cases A with
  | none =>
    have hb : bs = [] := by
      rcases Nat.eq_zero_or_pos n with h0 | h0
      · exact List.eq_nil_of_length_eq_zero (by rw [h.1]; exact h0)
      · obtain ⟨b, o, e, _⟩ := h.at_ h0; cases e
    subst hb
    rfl
  | some a =>
    have hl := Lib.run_loadBytesX (P := P) w (bs.map fun b => (b.toNat : Int)) a .empty (fun j x hj => by
      have hjl : j < bs.length := by have := (List.getElem?_eq_some_iff.1 hj).1; simpa using this
      obtain ⟨b, o, e, _, hc⟩ := h.2.2 (by rw [length_bcells]; omega)
      obtain rfl : a = ⟨b, o, none⟩ := by simpa using e
      rw [add_eq, hc j (by rw [length_bcells]; exact hjl), bcells_get]
      rw [List.getElem?_map] at hj
      rw [List.getElem?_eq_getElem hjl] at hj ⊢
      simp at hj
      simp [B8, hj])
    rw [List.length_map, h.1] at hl
    show (Extern.Bytes.loadBytes a n .empty).run P w = _
    rw [hl]
    congr 1
    apply ByteArray.ext
    have e1 : Lib.bytesOf (bs.map fun b => (b.toNat : Int)) = bs := by
      unfold Lib.bytesOf
      rw [List.map_map, List.map_congr_left (g := id)]
      · simp
      · intro b _; simp
    rw [e1]
    show (#[] : Array UInt8) ++ bs.toArray = _
    simp
theorem run_cmp {P : Program} {w : World} {B B' : Nat} {A A' : Option Addr} {n n' c c' : Nat} {a b : List UInt8} (h : Byt w B A n c a) (h' : Byt w B' A' n' c' b) :
    (Extern.BytealgCompare.compare #[.slice A n c, .slice A' n' c']).run P w = .ok (.int .i64 (Oct.cmp a b)) w := by
  show Sem.run P (do pure (goInt (Extern.BytealgCompare.cmp (← Extern.Bytes.bytesOf (.slice A n c)) (← Extern.Bytes.bytesOf (.slice A' n' c'))))) w = _
  simp only [Sem.run_bind, byt_bytesOf h, byt_bytesOf h', Result.andThen]
  rw [Lib.cmp_eq, cmpB_eq]
  rfl

set_option maxHeartbeats 1000000 in
theorem bytes_Compare (A A' : Option Addr) (n n' c c' : Nat) (a b : List UInt8) (w : World) (h : Byt w w.heap.size A n c a) (h' : Byt w w.heap.size A' n' c' b) :
    Calls Try.prog 38 #[.slice A n c, .slice A' n' c'] w fun e w' => e = .returned (.int .i64 (Oct.cmp a b)) ∧ w = w' := by
  go_enter Try.func38, Try.ntmps38
  go_wp2_with fail
  rw [run_callFunc_extern Try.func40 (by kernel_rfl) (by kernel_rfl) (by kernel_rfl) (e := Extern.BytealgCompare.compare) (by kernel_rfl), run_cmp h h']
  simp only [Result.andThen]
  rw [Oper.upon_value]
  go_wp2_with fail
  go_ret
  exact ⟨rfl, rfl⟩

set_option maxHeartbeats 1000000 in
theorem octets_Compare (A A' : Option Addr) (n n' c c' : Nat) (a b : List UInt8) (w : World) (h : Byt w w.heap.size A n c a) (h' : Byt w w.heap.size A' n' c' b) :
    Calls Try.prog 27 #[.slice A n c, .slice A' n' c'] w fun e w' => e = .returned (.int .i64 (Oct.cmp a b)) ∧ w = w' := by
  go_enter Try.func27, Try.ntmps27
  go_wp2_with (go_at_call 38; refine (bytes_Compare A A' n n' c c' a b _ h h').mono ?_; rintro e w1 ⟨rfl, rfl⟩)
  go_ret
  exact ⟨rfl, rfl⟩

set_option maxHeartbeats 1000000 in
theorem bytes_Equal (A A' : Option Addr) (n n' c c' : Nat) (a b : List UInt8) (w : World) (h : Byt w w.heap.size A n c a) (h' : Byt w w.heap.size A' n' c' b) :
    Calls Try.prog 41 #[.slice A n c, .slice A' n' c'] w fun e w' => e = .returned (.bool (Oct.same a b)) ∧ w = w' := by
  have h1 := byt_string (P := Try.prog) 22 5 Try.underlying22 Try.underlying5 h 9 Try.underlying9
  have h2 := byt_string (P := Try.prog) 22 5 Try.underlying22 Try.underlying5 h' 9 Try.underlying9
  go_enter Try.func41, Try.ntmps41
  go_wp2_with fail
  go_ret
  exact ⟨by rw [← same_beq]; rfl, rfl⟩

def begins (b p : List UInt8) : Bool := decide (p.length ≤ b.length) && Oct.same (b.take p.length) p

set_option maxHeartbeats 1000000 in
theorem bytes_HasPrefix (A A' : Option Addr) (n n' c c' : Nat) (a b : List UInt8) (w : World) (h : Byt w w.heap.size A n c a) (h' : Byt w w.heap.size A' n' c' b) :
    Calls Try.prog 39 #[.slice A n c, .slice A' n' c'] w fun e w' => e = .returned (.bool (begins a b)) ∧ w = w' := by
  have hla := Lib.hid h.1
  have hlb := Lib.hid h'.1
  have hc := h.2.1
  by_cases hnn : n' ≤ n
  · have hb : begins a b = Oct.same (a.take n') b := by unfold begins; rw [h.1, h'.1]; simp [hnn]
    have HB := Lib.hid hb
    have ht := h.take n' c hnn (by omega)
    have hd : decide (n' ≤ n) = true := by simpa using hnn
    have i0 : (0 : Int) ≤ (n' : Int) := by omega
    have i1 : (n' : Int) ≤ (c : Int) := by omega
    clear hb
    cases A with
    | none =>
      have hn0 : n = 0 := by
        rcases Nat.eq_zero_or_pos n with h0 | h0
        · exact h0
        · obtain ⟨b, o, e, _⟩ := h.at_ h0; cases e
      obtain rfl : n' = 0 := by omega
      subst hn0
      clear h hnn
      go_enter Try.func39, Try.ntmps39
      go_wp2_with fail
      refine (bytes_Equal _ _ _ _ _ _ (a.take 0) b _ Byt.empty h').mono ?_
      rintro e w1 ⟨rfl, rfl⟩
      go_wp2_with fail
      go_ret
      exact ⟨by rw [HB.out]; rfl, rfl⟩
    | some x =>
      clear h hnn
      go_enter Try.func39, Try.ntmps39
      go_wp2_with (go_at_call 41; refine (bytes_Equal _ _ _ _ _ _ _ _ _ ht h').mono ?_; rintro e w1 ⟨rfl, rfl⟩)
      go_ret
      exact ⟨by rw [HB.out]; rfl, rfl⟩
  · have hb : begins a b = false := by unfold begins; rw [h.1, h'.1]; simp [hnn]
    rw [hb]
    have hd : decide (n' ≤ n) = false := by simpa using hnn
    clear hb h h' hla hlb hnn
    go_enter Try.func39, Try.ntmps39
    go_wp2_with fail
    go_ret
    exact ⟨rfl, rfl⟩
end Go.Proofs.Ytpegechahbldlaa
