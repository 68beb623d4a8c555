/-
  The contracts of the cipher and of its reference, each in one piece.
-/
import Derived.Test.YtbmblalbnegglaaCipR
namespace Go.Proofs.Ytbmblalbnegglaa
open Go.RowKit

theorem cipher_crypt (A A' : Option Addr) (n n' c c' : Nat) (back : Bool) (key block : List UInt8) (w : World) (hk : Byt w w.heap.size A n c key) (hb : Byt w w.heap.size A' n' c' block) :
    Calls Try.prog 47 #[.slice A n c, .slice A' n' c', .bool back] w fun e w' => ∃ A2 d, e = .returned (.tuple #[.slice A2 (Cip.res key block back).length d, .int .i64 (Cip.err key block)]) ∧
      Own w' w.heap.size 5 1 A2 (Cip.res key block back).length d (bcells (Cip.res key block back)) ∧ Below w.heap.size w w' := by
  by_cases h1 : n = 16
  · subst h1
    by_cases h2 : n' = 8
    · subst h2
      obtain ⟨kb, ko, rfl, _⟩ := hk.at_ (by omega)
      obtain ⟨bb, bo, rfl, _⟩ := hb.at_ (by omega)
      rw [Cip.res_ok key block back hk.1 hb.1, Cip.err_ok key block hk.1 hb.1]
      exact crypt_ok kb ko bb bo c c' back key block w hk hb
    · rw [Cip.res_block key block back hk.1 (by rw [hb.1]; exact h2), Cip.err_block key block hk.1 (by rw [hb.1]; exact h2)]
      exact (crypt_block A A' n' c c' back w h2).mono fun e w' ⟨he, hw⟩ => ⟨none, 0, he, Own.none_ _ _ _ _ _, by subst hw; exact Below.refl _ _⟩
  · rw [Cip.res_key key block back (by rw [hk.1]; exact h1), Cip.err_key key block (by rw [hk.1]; exact h1)]
    exact (crypt_key A A' n n' c c' back w h1).mono fun e w' ⟨he, hw⟩ => ⟨none, 0, he, Own.none_ _ _ _ _ _, by subst hw; exact Below.refl _ _⟩

theorem ref19_run (A A' : Option Addr) (n n' c c' : Nat) (back : Bool) (key block : List UInt8) (w : World) (hk : Byt w w.heap.size A n c key) (hb : Byt w w.heap.size A' n' c' block) :
    Calls Try.prog 43 #[.slice A n c, .slice A' n' c', .bool back] w fun e w' => ∃ A2 d, e = .returned (.tuple #[.slice A2 (Cip.res key block back).length d, .int .i64 (Cip.err key block)]) ∧
      Own w' w.heap.size 5 1 A2 (Cip.res key block back).length d (bcells (Cip.res key block back)) ∧ Below w.heap.size w w' := by
  by_cases h1 : n = 16
  · subst h1
    by_cases h2 : n' = 8
    · subst h2
      obtain ⟨kb, ko, rfl, _⟩ := hk.at_ (by omega)
      obtain ⟨bb, bo, rfl, _⟩ := hb.at_ (by omega)
      rw [Cip.res_ok key block back hk.1 hb.1, Cip.err_ok key block hk.1 hb.1]
      exact refrun_ok kb ko bb bo c c' back key block w hk hb
    · rw [Cip.res_block key block back hk.1 (by rw [hb.1]; exact h2), Cip.err_block key block hk.1 (by rw [hb.1]; exact h2)]
      exact (refrun_block A A' n' c c' back w h2).mono fun e w' ⟨he, hw⟩ => ⟨none, 0, he, Own.none_ _ _ _ _ _, by subst hw; exact Below.refl _ _⟩
  · rw [Cip.res_key key block back (by rw [hk.1]; exact h1), Cip.err_key key block (by rw [hk.1]; exact h1)]
    exact (refrun_key A A' n n' c c' back w h1).mono fun e w' ⟨he, hw⟩ => ⟨none, 0, he, Own.none_ _ _ _ _ _, by subst hw; exact Below.refl _ _⟩

set_option maxHeartbeats 400000 in
theorem cipher_Encrypt (A A' : Option Addr) (n n' c c' : Nat) (key block : List UInt8) (w : World) (hk : Byt w w.heap.size A n c key) (hb : Byt w w.heap.size A' n' c' block) :
    Calls Try.prog 44 #[.slice A n c, .slice A' n' c'] w fun e w' => ∃ A2 d, e = .returned (.tuple #[.slice A2 (Cip.res key block false).length d, .int .i64 (Cip.err key block)]) ∧
      Own w' w.heap.size 5 1 A2 (Cip.res key block false).length d (bcells (Cip.res key block false)) ∧ Below w.heap.size w w' := by
  go_enter Try.func44, Try.ntmps44
  go_wp2_with (go_at_call 47; refine (cipher_crypt A A' n n' c c' false key block w hk hb).mono ?_; rintro e w1 ⟨A2, d, rfl, hown, hbel⟩)
  go_ret2
  exact ⟨A2, d, rfl, hown, hbel⟩

set_option maxHeartbeats 400000 in
theorem cipher_Decrypt (A A' : Option Addr) (n n' c c' : Nat) (key block : List UInt8) (w : World) (hk : Byt w w.heap.size A n c key) (hb : Byt w w.heap.size A' n' c' block) :
    Calls Try.prog 39 #[.slice A n c, .slice A' n' c'] w fun e w' => ∃ A2 d, e = .returned (.tuple #[.slice A2 (Cip.res key block true).length d, .int .i64 (Cip.err key block)]) ∧
      Own w' w.heap.size 5 1 A2 (Cip.res key block true).length d (bcells (Cip.res key block true)) ∧ Below w.heap.size w w' := by
  go_enter Try.func39, Try.ntmps39
  go_wp2_with (go_at_call 47; refine (cipher_crypt A A' n n' c c' true key block w hk hb).mono ?_; rintro e w1 ⟨A2, d, rfl, hown, hbel⟩)
  go_ret2
  exact ⟨A2, d, rfl, hown, hbel⟩

set_option maxHeartbeats 400000 in
theorem ref19_Encrypt (A A' : Option Addr) (n n' c c' : Nat) (key block : List UInt8) (w : World) (hk : Byt w w.heap.size A n c key) (hb : Byt w w.heap.size A' n' c' block) :
    Calls Try.prog 26 #[.slice A n c, .slice A' n' c'] w fun e w' => ∃ A2 d, e = .returned (.tuple #[.slice A2 (Cip.res key block false).length d, .int .i64 (Cip.err key block)]) ∧
      Own w' w.heap.size 5 1 A2 (Cip.res key block false).length d (bcells (Cip.res key block false)) ∧ Below w.heap.size w w' := by
  go_enter Try.func26, Try.ntmps26
  go_wp2_with (go_at_call 43; refine (ref19_run A A' n n' c c' false key block w hk hb).mono ?_; rintro e w1 ⟨A2, d, rfl, hown, hbel⟩)
  go_ret2
  exact ⟨A2, d, rfl, hown, hbel⟩

set_option maxHeartbeats 400000 in
theorem ref19_Decrypt (A A' : Option Addr) (n n' c c' : Nat) (key block : List UInt8) (w : World) (hk : Byt w w.heap.size A n c key) (hb : Byt w w.heap.size A' n' c' block) :
    Calls Try.prog 40 #[.slice A n c, .slice A' n' c'] w fun e w' => ∃ A2 d, e = .returned (.tuple #[.slice A2 (Cip.res key block true).length d, .int .i64 (Cip.err key block)]) ∧
      Own w' w.heap.size 5 1 A2 (Cip.res key block true).length d (bcells (Cip.res key block true)) ∧ Below w.heap.size w w' := by
  go_enter Try.func40, Try.ntmps40
  go_wp2_with (go_at_call 43; refine (ref19_run A A' n n' c c' true key block w hk hb).mono ?_; rintro e w1 ⟨A2, d, rfl, hown, hbel⟩)
  go_ret2
  exact ⟨A2, d, rfl, hown, hbel⟩
end Go.Proofs.Ytbmblalbnegglaa
