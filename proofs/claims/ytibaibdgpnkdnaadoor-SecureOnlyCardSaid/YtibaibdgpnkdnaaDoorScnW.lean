/-
  A slice of bytes of the caller's own, opened: its block is known whole, a byte of it is turned, and it is a value again.
-/
import Derived.Test.YtibaibdgpnkdnaaDoorScnV
namespace Go.Proofs.YtibaibdgpnkdnaaDoor
set_option maxRecDepth 100000
set_option linter.unusedSimpArgs false
set_option linter.unusedVariables false
open Go.RowKit

theorem Mem.openB {R : Nat → Prop} {s w : World} {L : List Ent} {t : TypeId} {A : Option Addr} {n c : Nat} {bs : List UInt8} (hm : Mem R s w L [⟨t, 1, A, n, c, bcells bs⟩]) (h0 : 0 < n) :
    ∃ (q : Nat) (cs : Array Value), A = some ⟨q, 0, none⟩ ∧ cs.toList.take n = bcells bs ∧ n ≤ cs.size ∧ n ≤ c ∧ Mem R s w (⟨q, t, cs⟩ :: L) [] := by
  have hs := hm.sl_ 0 rfl
  have hle := hs.2.1
  dsimp only at hle
  obtain ⟨q, cur, e, _, hh, hc, ht⟩ := hs.2.2.2 (by show 0 < c; omega)
  dsimp only at e hh hc ht
  have ho : ownAt A c = some q := by unfold ownAt; rw [if_neg (by omega), e]; rfl
  have h1 : Mem R s w L [] := hm.less (O := [])
  refine ⟨q, cur, e, by simpa using ht, by omega, hle, ?_⟩
  exact h1.cons hh (hm.slR _ (List.mem_singleton_self _) q ho) (fun e2 he e3 => hm.slL _ (List.mem_singleton_self _) e2 he (by rw [ho, e3])) (fun x hx => by cases hx)
theorem cell_of_take {cs : Array Value} {n : Nat} {bs : List UInt8} (h : cs.toList.take n = bcells bs) {i : Nat} (hi : i < bs.length) : cs[i]? = some (B8 (bs.getD i 0)) := by
  have h1 : (cs.toList.take n)[i]? = some (B8 (bs.getD i 0)) := by rw [h, bcells_get]; simp [List.getD, hi]
  rw [List.getElem?_take] at h1
  split at h1
  · rw [← h1]; simp
  · cases h1
theorem take_spl {cs : Array Value} {n : Nat} {bs : List UInt8} (h : cs.toList.take n = bcells bs) {i : Nat} (hi : i < bs.length) (b : UInt8) : (spl cs i #[B8 b]).toList.take n = bcells (bs.set i b) := by
  have hl : i < cs.toList.length := by
    have h1 : (cs.toList.take n).length = bs.length := by rw [h, length_bcells]
    rw [List.length_take] at h1
    omega
  have e : (spl cs i #[B8 b]).toList = cs.toList.set i (B8 b) := by
    rw [List.set_eq_take_append_cons_drop, if_pos hl]
    simp [spl]
  rw [e, List.take_set, h]
  simp [bcells, List.map_set]
theorem byt_of_take {w : World} {q : Nat} {t : TypeId} {cs : Array Value} {n c : Nat} {bs : List UInt8} (h : Blk w q t cs) (ht : cs.toList.take n = bcells bs) (hn : bs.length = n) (hc : n ≤ c) : Byt w w.heap.size (some ⟨q, 0, none⟩) n c bs :=
  ⟨hn, hc, by have := h.row.take n; rwa [ht] at this⟩
theorem Scn.entVal {w0 w : World} {L : List Ent} {O : List Osl} {Fs Vs : List Thing} {q : Nat} {t : TypeId} {cs : Array Value} {n c : Nat} {bs : List UInt8} (h : Scn w0 w (⟨q, t, cs⟩ :: L) O Fs Vs) (hb : Byt w w.heap.size (some ⟨q, 0, none⟩) n c bs) :
    Scn w0 w L O Fs (Vs ++ [⟨blks #[.slice (some ⟨q, 0, none⟩) n c], fun u => Byt u u.heap.size (some ⟨q, 0, none⟩) n c bs⟩]) := by
  have h2 := h.part (List.sublist_cons_self _ _) (List.Sublist.refl O) (List.Sublist.refl Vs)
  refine ⟨h2.cal, h2.fs, fun x hx => ?_⟩
  rcases List.mem_append.1 hx with hx | hx
  · exact h2.vs x hx
  · obtain rfl := List.mem_singleton.1 hx
    have key : ∀ p, blks #[.slice (some ⟨q, 0, none⟩) n c] p → p = q := by
      intro p hp
      obtain ⟨A', n', c', a, hm, hn, e, rfl⟩ := hp
      simp at hm
      obtain ⟨rfl, rfl, rfl⟩ := hm
      cases e; rfl
    refine ⟨bytSup hb, fun y hy p hp hp2 => ?_, fun e he hp2 => ?_⟩
    · have := key p hp2
      subst this
      exact h.cal.dl _ (List.mem_map.2 ⟨y, hy, rfl⟩) _ (List.mem_cons_self) hp
    · have hd := h.cal.mem.diff
      rw [List.map_cons, List.nodup_cons] at hd
      exact hd.1 (List.mem_map.2 ⟨e, he, key _ hp2⟩)
end Go.Proofs.YtibaibdgpnkdnaaDoor
