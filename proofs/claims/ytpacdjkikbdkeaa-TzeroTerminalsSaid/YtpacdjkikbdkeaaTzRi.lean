/-
  Small facts that the terminal's texts share with the card's (XTzL, XTzO, XTzX have them too: never import both).
-/
import Derived.Test.YtpacdjkikbdkeaaTzK
import Derived.Test.YtpacdjkikbdkeaaKn
namespace Go.Proofs.Ytpacdjkikbdkeaa
set_option maxRecDepth 100000
set_option linter.unusedSimpArgs false
set_option linter.unusedVariables false
open Go.RowKit
set_option maxHeartbeats 4000000

theorem ORes.len {w : World} {bs : List UInt8} {e : Ending} {w' : World} (h : ORes w bs e w') {n : Nat} (hn : bs.length = n) : ∃ A c, e = .returned (.slice A n c) ∧ Own w' w.heap.size 5 1 A n c (bcells bs) ∧ Below w.heap.size w w' := by
  subst hn; exact h
theorem rinv_far {a b nc nr q : Nat} (h1 : nc < b) (h2 : nr < b) (h4 : a ≤ nc ∧ a ≤ nr) (hq : q = nc ∨ q = nr) : ¬ ((q < a ∨ (a ≤ q ∧ q ≠ nc ∧ q ≠ nr)) ∨ b ≤ q) := by omega
theorem rinv_up {F : Nat → Prop} {a b c nc nr q : Nat} (h1 : nc < b) (h2 : nr < b) (h3 : c ≤ b) (h4 : a ≤ c) (h : (F q ∨ (a ≤ q ∧ q ≠ nc ∧ q ≠ nr)) ∨ b ≤ q) : F q ∨ (a ≤ q ∧ q ≠ nc ∧ q ≠ nr) := by
  rcases h with h | h
  · exact h
  · exact .inr ⟨by omega, by omega, by omega⟩
theorem rinv_mine {w0 wr : World} {nc nr : Nat} {t t' : TypeId} {cs cs' : Array Value} {O : List Osl} (h : Mem (fun _ => False) w0 wr [⟨nc, t, cs⟩, ⟨nr, t', cs'⟩] O) : w0.heap.size ≤ nc ∧ w0.heap.size ≤ nr :=
  ⟨(h.own _ (List.mem_cons_self)).resolve_left id, (h.own _ (List.mem_cons_of_mem _ List.mem_cons_self)).resolve_left id⟩
theorem rinv_side {w0 wr : World} {nc nr : Nat} {t t' : TypeId} {cs cs' : Array Value} {O : List Osl} (h : Mem (fun _ => False) w0 wr [⟨nc, t, cs⟩, ⟨nr, t', cs'⟩] O) : ∀ q, (∃ e ∈ ([⟨nc, t, cs⟩, ⟨nr, t', cs'⟩] : List Ent), q = e.g) → ¬ (q < w0.heap.size ∨ (w0.heap.size ≤ q ∧ q ≠ nc ∧ q ≠ nr)) := by
  rintro q ⟨e, he, rfl⟩ hq
  have h1 := h.own e he
  simp only [List.mem_cons, List.not_mem_nil, or_false] at he
  rcases h1 with h1 | h1
  · exact h1
  · rcases hq with hq | ⟨_, h2, h3⟩
    · omega
    · rcases he with rfl | rfl
      · exact h2 rfl
      · exact h3 rfl
theorem Byt.sup {w : World} {A : Option Addr} {n c : Nat} {bs : List UInt8} (h : Byt w w.heap.size A n c bs) : Sup w (blks #[.slice A n c]) (fun u => Byt u u.heap.size A n c bs) := by
  have hin : 0 < n → ∀ a, A = some a → blks #[.slice A n c] a.block := fun hn a e => ⟨A, n, c, a, by simp, hn, e, rfl⟩
  refine ⟨h, fun q hq => ?_, fun R w' ho hd => h.only ho fun a e hn => hd _ (hin hn a e)⟩
  obtain ⟨A', n', c', a, hm, hn, e, rfl⟩ := hq
  simp at hm
  obtain ⟨rfl, rfl, rfl⟩ := hm
  obtain ⟨b, o, e2, hb⟩ := h.at_ hn
  rw [e] at e2; injection e2 with e2; subst e2
  exact hb
theorem Far.lone {F : Nat → Prop} {A : Option Addr} {n c : Nat} (h : 0 < n → ∀ a, A = some a → F a.block) : Far F #[.slice A n c] := fun A' n' c' hm hn a e => by
  simp at hm
  obtain ⟨rfl, rfl, rfl⟩ := hm
  exact h hn a e
end Go.Proofs.Ytpacdjkikbdkeaa
