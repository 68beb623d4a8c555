/-
  The journal: the pages that changed has read, in memory.
-/
import Derived.Test.YtmhjddmamknglaaGreatJnP
namespace Go.Proofs.YtmhjddmamknglaaGreat
set_option maxRecDepth 100000
set_option linter.unusedSimpArgs false
set_option linter.unusedVariables false
open Go.RowKit
set_option maxHeartbeats 8000000

/-- A page that changed has read: its number, and where it lies. -/
structure PE where
  i : Nat
  b : Nat
  c : Nat
def PE.val (x : PE) : Value := .slice (some ⟨x.b, 0, none⟩) 48 x.c
def PE.ents (E : List PE) : List (Int × Value) := E.map fun x => ((x.i : Int), x.val)
def PE.G (mb : Nat) (E : List PE) : Nat → Prop := fun q => q = mb ∨ ∃ x ∈ E, q = x.b
structure PMap (F : List UInt8) (mb : Nat) (E : List PE) (u : World) : Prop where
  map : MapI u mb (PE.ents E)
  own : ∀ x ∈ E, Own u 0 5 1 (some ⟨x.b, 0, none⟩) 48 x.c (bcells (Jn.pg F x.i))
  ne : ∀ x ∈ E, x.b ≠ mb
  dif : (E.map (·.b)).Nodup
section
variable {F : List UInt8} {mb : Nat} {E : List PE} {w w' : World}
theorem own_blk {t : TypeId} {b c : Nat} {cs : List Value} (h : Own w 0 t 1 (some ⟨b, 0, none⟩) 48 c cs) : b < w.heap.size := by
  obtain ⟨g, cur, e, _, hg, _⟩ := h.2.2.2 (by have := h.2.1; omega)
  cases e
  exact (Array.getElem?_eq_some_iff.1 hg).1
theorem PMap.sup (h : PMap F mb E w) : Sup w (PE.G mb E) (PMap F mb E) := by
  refine ⟨h, fun q hq => ?_, fun R w2 ho hd => ⟨h.map.sup.on R w2 ho (fun q e => hd q (.inl e)), fun x hx => (h.own x hx).only ho (fun g e => by cases e; exact hd _ (.inr ⟨x, hx, rfl⟩)), h.ne, h.dif⟩⟩
  rcases hq with rfl | ⟨x, hx, rfl⟩
  · exact h.map.lt
  · exact own_blk (h.own x hx)
theorem PE.find {i : Nat} : ∀ (E : List PE), i ∈ E.map (·.i) → ∃ x ∈ E, x.i = i ∧ assocI (i : Int) (PE.ents E) = some x.val := by
  intro E
  induction E with
  | nil => intro h; cases h
  | cons y E ih =>
    intro h
    by_cases e : i = y.i
    · exact ⟨y, List.mem_cons_self, e.symm, by show (if (i : Int) = (y.i : Int) then _ else _) = _; rw [if_pos (by omega)]⟩
    · rw [List.map_cons, List.mem_cons] at h
      obtain ⟨x, hx, h1, h2⟩ := ih (h.resolve_left e)
      exact ⟨x, List.mem_cons_of_mem _ hx, h1, by show (if (i : Int) = (y.i : Int) then _ else _) = _; rw [if_neg (by omega)]; exact h2⟩
theorem PE.miss {i : Nat} : ∀ (E : List PE), i ∉ E.map (·.i) → assocI (i : Int) (PE.ents E) = none := by
  intro E
  induction E with
  | nil => intro _; rfl
  | cons y E ih =>
    intro h
    rw [List.map_cons, List.mem_cons, not_or] at h
    show (if (i : Int) = (y.i : Int) then _ else _) = _
    rw [if_neg (by have := h.1; omega)]
    exact ih h.2
/-- A page more. -/
theorem PMap.add (h : PMap F mb E w) (x : PE) (hb : Own w 0 5 1 (some ⟨x.b, 0, none⟩) 48 x.c (bcells (Jn.pg F x.i))) (hx : x.b ≠ mb) (hnew : ∀ y ∈ E, y.b ≠ x.b) (hm : MapI w' mb (PE.ents E ++ [((x.i : Int), x.val)])) (hO : Only (fun q => q = mb) w w') : PMap F mb (E ++ [x]) w' := by
  refine ⟨by rw [show PE.ents (E ++ [x]) = PE.ents E ++ [((x.i : Int), x.val)] by simp [PE.ents]]; exact hm, fun y hy => ?_, fun y hy => ?_, ?_⟩
  · rcases List.mem_append.1 hy with hy | hy
    · exact (h.own y hy).only hO (fun g e => by cases e; exact h.ne y hy)
    · obtain rfl := List.mem_singleton.1 hy
      exact hb.only hO (fun g e => by cases e; exact hx)
  · rcases List.mem_append.1 hy with hy | hy
    · exact h.ne y hy
    · obtain rfl := List.mem_singleton.1 hy; exact hx
  · rw [List.map_append, List.nodup_append]
    exact ⟨h.dif, by simp, fun a ha b hb e => by
      obtain ⟨y, hy, rfl⟩ := List.mem_map.1 ha
      simp at hb
      exact hnew y hy (e.trans hb)⟩
theorem PMap.apart (h : PMap F mb E w) {x y : PE} (hx : x ∈ E) (hy : y ∈ E) (e : x.b = y.b) : x = y := by
  have key : ∀ E : List PE, (E.map (·.b)).Nodup → x ∈ E → y ∈ E → x = y := by
    intro E
    induction E with
    | nil => intro _ h; cases h
    | cons z E ih =>
      intro hn hx hy
      rw [List.map_cons, List.nodup_cons] at hn
      rcases List.mem_cons.1 hx with h1 | hx
      · rcases List.mem_cons.1 hy with h2 | hy
        · exact h1.trans h2.symm
        · exact absurd (List.mem_map.2 ⟨y, hy, by rw [← h1]; exact e.symm⟩) hn.1
      · rcases List.mem_cons.1 hy with h2 | hy
        · exact absurd (List.mem_map.2 ⟨x, hx, by rw [← h2]; exact e⟩) hn.1
        · exact ih hn.2 hx hy
  exact key E h.dif hx hy
/-- A byte is changed. -/
theorem PMap.put (h : PMap F mb E w) {n a : Nat} (hl : F.length = 48 * n) (ha : a < 48 * n) (hE : ∀ y ∈ E, 32 ≤ y.i ∧ y.i - 32 < n) (hn : ∀ y ∈ E, ∀ z ∈ E, y.i = z.i → y = z) {x : PE} (hx : x ∈ E) (hi : x.i = 32 + a / 48) (v : UInt8)
    (hb : Own w' 0 5 1 (some ⟨x.b, 0, none⟩) 48 x.c ((bcells (Jn.pg F x.i)).set (a % 48) (.int .u8 v.toNat))) (hO : Only (fun q => q = x.b) w w') : PMap (F.set a v) mb E w' := by
  refine ⟨h.map.sup.on _ w' hO (fun q e e2 => h.ne x hx (e2.symm.trans e)), fun y hy => ?_, h.ne, h.dif⟩
  by_cases e : y = x
  · subst e
    rw [hi, Jn.pg_set hl ha v, ← hi]
    have e2 : bcells ((Jn.pg F y.i).set (a % 48) v) = (bcells (Jn.pg F y.i)).set (a % 48) (.int .u8 v.toNat) := by unfold bcells; rw [List.map_set]
    rw [e2]; exact hb
  · rw [Jn.pg_set_other hl (hE y hy).1 (hE y hy).2 (fun e2 => e (hn y hy x hx (e2.trans hi.symm))) v]
    exact (h.own y hy).only hO (fun g e2 => by cases e2; exact fun e3 => e (h.apart hy hx e3))
end
end Go.Proofs.YtmhjddmamknglaaGreat
