/-
  A slice of the caller's own, held from here on as a value.
-/
import Derived.Test.YtibaibdgpnkdnaaDoorZ1
import Derived.Test.YtibaibdgpnkdnaaDoorZ2
namespace Go.Proofs.YtibaibdgpnkdnaaDoor
set_option maxRecDepth 100000
set_option linter.unusedSimpArgs false
set_option linter.unusedVariables false
open Go.RowKit

theorem bytSup {w : World} {A : Option Addr} {n c : Nat} {bs : List UInt8} (h : Byt w w.heap.size A n c bs) : Sup w (blks #[.slice A n c]) (fun u => Byt u u.heap.size A n c bs) := by
  have hin : 0 < n → ∀ a, A = some a → blks #[.slice A n c] a.block := fun hn a e => ⟨A, n, c, a, by simp, hn, e, rfl⟩
  refine ⟨h, fun q hq => ?_, fun R w' ho hd => h.only ho fun a e hn => hd _ (hin hn a e)⟩
  obtain ⟨A', n', c', a, hm, hn, e, rfl⟩ := hq
  simp at hm
  obtain ⟨rfl, rfl, rfl⟩ := hm
  obtain ⟨b, o, e2, hb⟩ := h.at_ hn
  rw [e] at e2; injection e2 with e2; subst e2
  exact hb
theorem Scn.asVal {w0 w : World} {L : List Ent} {O : List Osl} {Fs Vs : List Thing} (h : Scn w0 w L O Fs Vs) (i : Nat) {A : Option Addr} {n c : Nat} {t : TypeId} {bs : List UInt8} (hi : O[i]? = some ⟨t, 1, A, n, c, bcells bs⟩) :
    Scn w0 w L O Fs (Vs ++ [⟨blks #[.slice A n c], fun u => Byt u u.heap.size A n c bs⟩]) := by
  have hb := h.byt i hi
  have hc := hb.2.1
  refine ⟨h.cal, h.fs, fun x hx => ?_⟩
  rcases List.mem_append.1 hx with hx | hx
  · exact h.vs x hx
  · obtain rfl := List.mem_singleton.1 hx
    have key : ∀ q, blks #[.slice A n c] q → ownAt A c = some q := by
      intro q hq
      obtain ⟨A', n', c', a, hm, hn, e, rfl⟩ := hq
      simp at hm
      obtain ⟨rfl, rfl, rfl⟩ := hm
      exact ownAt_some (Nat.lt_of_lt_of_le hn hc) e
    refine ⟨bytSup hb, fun y hy q hy2 hq2 => ?_, fun e he hq2 => ?_⟩
    · exact h.cal.ds _ (List.mem_map.2 ⟨y, hy, rfl⟩) _ (List.mem_of_getElem? hi) q (key q hq2) hy2
    · exact h.cal.mem.slL _ (List.mem_of_getElem? hi) e he (key _ hq2)
theorem Scn.bytV {w0 w : World} {L : List Ent} {O : List Osl} {Fs Vs : List Thing} (h : Scn w0 w L O Fs Vs) (i k : Nat) {x : Thing} (hk : Fs[k]? = some x) {A : Option Addr} {n c : Nat} {bs : List UInt8} (hi : Vs[i]? = some ⟨blks #[.slice A n c], fun u => Byt u u.heap.size A n c bs⟩) : Byt w w.heap.size A n c bs ∧ ∀ a, A = some a → 0 < n → ¬ x.G a.block :=
  ⟨h.val i hi, fun a e hn hq => (h.vs _ (List.mem_of_getElem? hi)).2.1 x (List.mem_of_getElem? hk) a.block hq ⟨A, n, c, a, by simp, hn, e, rfl⟩⟩
end Go.Proofs.YtibaibdgpnkdnaaDoor
