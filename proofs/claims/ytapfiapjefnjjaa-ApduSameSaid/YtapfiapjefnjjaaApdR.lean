/-
  The walk of the statement ApduSame.
-/
import Derived.Test.YtapfiapjefnjjaaApdQ
namespace Go.Proofs.Ytapfiapjefnjjaa
set_option linter.unusedSimpArgs false
open Go.RowKit

/-- What stays while the last line of a statement about two commands calls one function after another. -/
def SMS (w : World) (g g' : Nat) (t : TypeId) (cs cs' : Array Value) (A A' : Option Addr) (n n' c c' : Nat) (d d' : List UInt8) (u : World) : Prop :=
  Blk u g t cs ∧ Blk u g' t cs' ∧ Byt u u.heap.size A n c d ∧ Byt u u.heap.size A' n' c' d' ∧ Below w.heap.size w u
theorem SMS.after {w u u' : World} {g g' : Nat} {t : TypeId} {cs cs' : Array Value} {A A' : Option Addr} {n n' c c' : Nat} {d d' : List UInt8} (h : SMS w g g' t cs cs' A A' n n' c c' d d' u) (hb : Below u.heap.size u u') : SMS w g g' t cs cs' A A' n n' c c' d d' u' :=
  ⟨h.1.after hb, h.2.1.after hb, h.2.2.1.after hb, h.2.2.2.1.after hb, bgo h.2.2.2.2 hb⟩
theorem SMS.drew {w u : World} {g g' : Nat} {t : TypeId} {cs cs' : Array Value} {A A' : Option Addr} {n n' c c' : Nat} {d d' : List UInt8} (h : SMS w g g' t cs cs' A A' n n' c c' d d' u) : SMS w g g' t cs cs' A A' n n' c c' d d' u.drew :=
  ⟨h.1, h.2.1, h.2.2.1, h.2.2.2.1, h.2.2.2.2.drew⟩

set_option maxRecDepth 100000 in
set_option maxHeartbeats 8000000 in
theorem law_ApduSame (a0 a1 a2 a3 : Int) (A : Option Addr) (n c : Nat) (d : List UInt8) (le : Int) (lg : Bool) (b0 b1 b2 b3 : Int) (A' : Option Addr) (n' c' : Nat) (d' : List UInt8) (le' : Int) (lg' : Bool) (w : World)
    (h : Byt w w.heap.size A n c d) (h' : Byt w w.heap.size A' n' c' d') :
    Calls Try.prog 6 #[cmdV a0 a1 a2 a3 A n c le lg, cmdV b0 b1 b2 b3 A' n' c' le' lg'] w fun e w' => e = .returned (.bool true) ∧ Below w.heap.size w w' := by
  obtain ⟨T1, T2, T3⟩ := twoB w 24 24 #[I64 a0, I64 a1, I64 a2, I64 a3, .slice A n c, I64 le, .bool lg] #[I64 b0, I64 b1, I64 b2, I64 b3, .slice A' n' c', I64 le', .bool lg']
  have HS : SMS w w.heap.size (w.heap.size + 1) 24 #[I64 a0, I64 a1, I64 a2, I64 a3, .slice A n c, I64 le, .bool lg] #[I64 b0, I64 b1, I64 b2, I64 b3, .slice A' n' c', I64 le', .bool lg'] A A' n n' c c' d d' _ := ⟨T1, T2, h.after T3, h'.after T3, T3⟩
  have k4 := T1.cell 4
  have k4' := T2.cell 4
  clear T1 T2 T3 h h'
  have hEnd : ∀ u, Below w.heap.size w u → Calls Try.prog 11 #[] u fun e w' => e = .returned (.bool true) ∧ Below w.heap.size w w' := fun u hu => (law04_example u).mono fun e w' ⟨he, hb⟩ => ⟨he, bgo hu hb⟩
  unfold cmdV
  by_cases hn : n ≤ 5000
  case neg =>
    have q0 : (5000 : Int) < (n : Int) := by omega
    go_enter Try.func6, Try.ntmps6
    go_wp2_with fail
    go_at_call 11
    refine (hEnd _ HS.2.2.2.2).mono ?_
    rintro e w9 ⟨rfl, b9⟩
    go_wp2_with fail
    go_ret
    exact ⟨rfl, b9⟩
  have q0 : ¬ (5000 : Int) < (n : Int) := by omega
  by_cases hn' : n' ≤ 5000
  case neg =>
    have q1 : (5000 : Int) < (n' : Int) := by omega
    go_enter Try.func6, Try.ntmps6
    go_wp2_with fail
    go_at_call 11
    refine (hEnd _ HS.2.2.2.2).mono ?_
    rintro e w9 ⟨rfl, b9⟩
    go_wp2_with fail
    go_ret
    exact ⟨rfl, b9⟩
  have q1 : ¬ (5000 : Int) < (n' : Int) := by omega
  have hC1 := fun u x y => apdu_Same a0 a1 a2 a3 A n c d le lg b0 b1 b2 b3 A' n' c' d' le' lg' u x y (by omega) (by omega)
  have hC2 := fun u x y => ref04_Same a0 a1 a2 a3 A n c d le lg b0 b1 b2 b3 A' n' c' d' le' lg' u x y (by omega) (by omega)
  have hC3 := fun u x y => apdu_Same a0 a1 a2 a3 A n c d le lg a0 a1 a2 a3 A n c d le lg u x y (by omega) (by omega)
  rw [Apd.smB_refl] at hC3
  unfold cmdV at hC1 hC2 hC3
  generalize Apd.smB a0 a1 a2 a3 d le lg b0 b1 b2 b3 d' le' lg' = z at *
  have HC1 := Lib.hid hC1
  have HC2 := Lib.hid hC2
  have HC3 := Lib.hid hC3
  clear hC1 hC2 hC3
  go_enter Try.func6, Try.ntmps6
  go_upto_region 3 with fail
  clear k4 k4'
  replace HS := SMS.drew HS
  refine wp_region_noPanic ?_
  refine wp_region_held_drew (S := fun u => (u.cell? ⟨w.heap.size, 0, none⟩ = some (I64 a0) ∧ u.cell? ⟨w.heap.size, 1, none⟩ = some (I64 a1) ∧ u.cell? ⟨w.heap.size, 2, none⟩ = some (I64 a2) ∧ u.cell? ⟨w.heap.size, 3, none⟩ = some (I64 a3) ∧ u.cell? ⟨w.heap.size, 4, none⟩ = some (.slice A n c) ∧ u.cell? ⟨w.heap.size, 5, none⟩ = some (I64 le) ∧ u.cell? ⟨w.heap.size, 6, none⟩ = some (.bool lg)) ∧ (u.cell? ⟨w.heap.size + 1, 0, none⟩ = some (I64 b0) ∧ u.cell? ⟨w.heap.size + 1, 1, none⟩ = some (I64 b1) ∧ u.cell? ⟨w.heap.size + 1, 2, none⟩ = some (I64 b2) ∧ u.cell? ⟨w.heap.size + 1, 3, none⟩ = some (I64 b3) ∧ u.cell? ⟨w.heap.size + 1, 4, none⟩ = some (.slice A' n' c') ∧ u.cell? ⟨w.heap.size + 1, 5, none⟩ = some (I64 le') ∧ u.cell? ⟨w.heap.size + 1, 6, none⟩ = some (.bool lg')) ∧ SMS w w.heap.size (w.heap.size + 1) 24 #[I64 a0, I64 a1, I64 a2, I64 a3, .slice A n c, I64 le, .bool lg] #[I64 b0, I64 b1, I64 b2, I64 b3, .slice A' n' c', I64 le', .bool lg'] A A' n n' c c' d d' u) (by kernel_rfl) (by exact ⟨⟨HS.1.cell 0, HS.1.cell 1, HS.1.cell 2, HS.1.cell 3, HS.1.cell 4, HS.1.cell 5, HS.1.cell 6⟩, ⟨HS.2.1.cell 0, HS.2.1.cell 1, HS.2.1.cell 2, HS.2.1.cell 3, HS.2.1.cell 4, HS.2.1.cell 5, HS.2.1.cell 6⟩, HS⟩) (fun hHeld => ?_)
  refine wpAnyH_take2 (i := 0) (by simp only [List.getElem?_toArray, List.getElem?_cons_succ, List.getElem?_cons_zero]; first | done | exact rfl) ⟨?_, by kernel_rfl, by kernel_rfl, by kernel_rfl, fun _ _ _ h => h, Or.inl ⟨by rfl, ?_⟩, by assumption, ?_⟩
  rotate_left 1
  · (intro w9 hSw; (try dsimp only at hSw); go_simp; try (with_reducible rfl))
  try simp only [Act.put, List.setIfInBounds_toArray, List.set_cons_zero, List.set_cons_succ]
  refine wpAnyH_take2 (i := 1) (by simp only [List.getElem?_toArray, List.getElem?_cons_succ, List.getElem?_cons_zero]; first | done | exact rfl) ⟨?_, by kernel_rfl, by kernel_rfl, by kernel_rfl, fun _ _ _ h => h, Or.inl ⟨by rfl, ?_⟩, by assumption, ?_⟩
  rotate_left 1
  · (intro w9 hSw; (try dsimp only at hSw); go_simp; try (with_reducible rfl))
  try simp only [Act.put, List.setIfInBounds_toArray, List.set_cons_zero, List.set_cons_succ]
  refine wpAnyH_take2 (i := 3) (by simp only [List.getElem?_toArray, List.getElem?_cons_succ, List.getElem?_cons_zero]; first | done | exact rfl) ⟨?_, by kernel_rfl, by kernel_rfl, by kernel_rfl, fun _ _ _ h => h, Or.inl ⟨by rfl, ?_⟩, by assumption, ?_⟩
  rotate_left 1
  · (intro w9 hSw; (try dsimp only at hSw); go_simp; try (with_reducible rfl))
  try simp only [Act.put, List.setIfInBounds_toArray, List.set_cons_zero, List.set_cons_succ]
  refine wpAnyH_take2 (i := 4) (by simp only [List.getElem?_toArray, List.getElem?_cons_succ, List.getElem?_cons_zero]; first | done | exact rfl) ⟨?_, by kernel_rfl, by kernel_rfl, by kernel_rfl, fun _ _ _ h => h, Or.inl ⟨by rfl, ?_⟩, by assumption, ?_⟩
  rotate_left 1
  · (intro w9 hSw; (try dsimp only at hSw); go_simp; try (with_reducible rfl))
  try simp only [Act.put, List.setIfInBounds_toArray, List.set_cons_zero, List.set_cons_succ]
  refine wpAnyH_ready (rs := [2]) (by kernel_rfl) (by simp) ?_
  refine AllReadyH.cons2 (by simp only [List.getElem?_toArray, List.getElem?_cons_succ, List.getElem?_cons_zero]; first | done | exact rfl) (fun K hK => ?_)
  rw [if_pos (by rfl)]
  go_simp
  go_at_call 24
  refine (HC1.out _ HS.2.2.1 HS.2.2.2.1).mono ?_
  rintro e w5 ⟨rfl, b5⟩
  replace HS := SMS.after HS b5
  clear b5
  go_wp2_with fail
  refine hK.out _ _ (by exact ⟨⟨HS.1.cell 0, HS.1.cell 1, HS.1.cell 2, HS.1.cell 3, HS.1.cell 4, HS.1.cell 5, HS.1.cell 6⟩, ⟨HS.2.1.cell 0, HS.2.1.cell 1, HS.2.1.cell 2, HS.2.1.cell 3, HS.2.1.cell 4, HS.2.1.cell 5, HS.2.1.cell 6⟩, HS⟩) (fun hHeld => ?_)
  clear hK K
  try simp only [Act.put, List.setIfInBounds_toArray, List.set_cons_zero, List.set_cons_succ]
  refine wpAnyH_ready (rs := [5]) (by kernel_rfl) (by simp) ?_
  refine AllReadyH.cons2 (by simp only [List.getElem?_toArray, List.getElem?_cons_succ, List.getElem?_cons_zero]; first | done | exact rfl) (fun K hK => ?_)
  rw [if_pos (by rfl)]
  go_simp
  go_at_call 25
  refine (HC2.out _ HS.2.2.1 HS.2.2.2.1).mono ?_
  rintro e w5 ⟨rfl, b5⟩
  replace HS := SMS.after HS b5
  clear b5
  go_wp2_with fail
  refine hK.out _ _ (by exact ⟨⟨HS.1.cell 0, HS.1.cell 1, HS.1.cell 2, HS.1.cell 3, HS.1.cell 4, HS.1.cell 5, HS.1.cell 6⟩, ⟨HS.2.1.cell 0, HS.2.1.cell 1, HS.2.1.cell 2, HS.2.1.cell 3, HS.2.1.cell 4, HS.2.1.cell 5, HS.2.1.cell 6⟩, HS⟩) (fun hHeld => ?_)
  clear hK K
  try simp only [Act.put, List.setIfInBounds_toArray, List.set_cons_zero, List.set_cons_succ]
  refine wpAnyH_take2 (i := 6) (by simp only [List.getElem?_toArray, List.getElem?_cons_succ, List.getElem?_cons_zero]; first | done | exact rfl) ⟨?_, by kernel_rfl, by kernel_rfl, by kernel_rfl, fun _ _ _ h => h, Or.inl ⟨by rfl, ?_⟩, by assumption, ?_⟩
  rotate_left 1
  · (intro w9 hSw; (try dsimp only at hSw); go_simp; try (with_reducible rfl))
  try simp only [Act.put, List.setIfInBounds_toArray, List.set_cons_zero, List.set_cons_succ]
  refine wpAnyH_take2 (i := 7) (by simp only [List.getElem?_toArray, List.getElem?_cons_succ, List.getElem?_cons_zero]; first | done | exact rfl) ⟨?_, by kernel_rfl, by kernel_rfl, by kernel_rfl, fun _ _ _ h => h, Or.inl ⟨by rfl, ?_⟩, by assumption, ?_⟩
  rotate_left 1
  · (intro w9 hSw; (try dsimp only at hSw); go_simp; try (with_reducible rfl))
  try simp only [Act.put, List.setIfInBounds_toArray, List.set_cons_zero, List.set_cons_succ]
  refine wpAnyH_take2 (i := 8) (by simp only [List.getElem?_toArray, List.getElem?_cons_succ, List.getElem?_cons_zero]; first | done | exact rfl) ⟨?_, by kernel_rfl, by kernel_rfl, by kernel_rfl, fun _ _ _ h => h, Or.inl ⟨by rfl, ?_⟩, by assumption, ?_⟩
  rotate_left 1
  · (intro w9 hSw; (try dsimp only at hSw); go_simp; try (with_reducible rfl))
  try simp only [Act.put, List.setIfInBounds_toArray, List.set_cons_zero, List.set_cons_succ]
  refine wpAnyH_take2 (i := 9) (by simp only [List.getElem?_toArray, List.getElem?_cons_succ, List.getElem?_cons_zero]; first | done | exact rfl) ⟨?_, by kernel_rfl, by kernel_rfl, by kernel_rfl, fun _ _ _ h => h, Or.inl ⟨by rfl, ?_⟩, by assumption, ?_⟩
  rotate_left 1
  · (intro w9 hSw; (try dsimp only at hSw); go_simp; try (with_reducible rfl))
  try simp only [Act.put, List.setIfInBounds_toArray, List.set_cons_zero, List.set_cons_succ]
  refine wpAnyH_ready (rs := [10]) (by kernel_rfl) (by simp) ?_
  refine AllReadyH.cons2 (by simp only [List.getElem?_toArray, List.getElem?_cons_succ, List.getElem?_cons_zero]; first | done | exact rfl) (fun K hK => ?_)
  rw [if_pos (by rfl)]
  go_simp
  go_at_call 24
  refine (HC3.out _ HS.2.2.1 HS.2.2.1).mono ?_
  rintro e w5 ⟨rfl, b5⟩
  replace HS := SMS.after HS b5
  clear b5
  go_wp2_with fail
  refine hK.out _ _ (by exact ⟨⟨HS.1.cell 0, HS.1.cell 1, HS.1.cell 2, HS.1.cell 3, HS.1.cell 4, HS.1.cell 5, HS.1.cell 6⟩, ⟨HS.2.1.cell 0, HS.2.1.cell 1, HS.2.1.cell 2, HS.2.1.cell 3, HS.2.1.cell 4, HS.2.1.cell 5, HS.2.1.cell 6⟩, HS⟩) (fun hHeld => ?_)
  clear hK K
  try simp only [Act.put, List.setIfInBounds_toArray, List.set_cons_zero, List.set_cons_succ]
  refine wpAnyH_take2 (i := 11) (by simp only [List.getElem?_toArray, List.getElem?_cons_succ, List.getElem?_cons_zero]; first | done | exact rfl) ⟨?_, by kernel_rfl, by kernel_rfl, by kernel_rfl, fun _ _ _ h => h, Or.inl ⟨by rfl, ?_⟩, by assumption, ?_⟩
  rotate_left 1
  · (intro w9 hSw; (try dsimp only at hSw); go_simp; try (with_reducible rfl))
  try simp only [Act.put, List.setIfInBounds_toArray, List.set_cons_zero, List.set_cons_succ]
  refine wpAnyH_take2 (i := 12) (by simp only [List.getElem?_toArray, List.getElem?_cons_succ, List.getElem?_cons_zero]; first | done | exact rfl) ⟨?_, by kernel_rfl, by kernel_rfl, by kernel_rfl, fun _ _ _ h => h, Or.inl ⟨by rfl, ?_⟩, by assumption, ?_⟩
  rotate_left 1
  · (intro w9 hSw; (try dsimp only at hSw); go_simp; try (with_reducible rfl))
  try simp only [Act.put, List.setIfInBounds_toArray, List.set_cons_zero, List.set_cons_succ]
  refine wpAnyH_ready (rs := [13]) (by kernel_rfl) (by simp) ?_
  refine AllReadyH.cons2 (by simp only [List.getElem?_toArray, List.getElem?_cons_succ, List.getElem?_cons_zero]; first | done | exact rfl) (fun K hK => ?_)
  rw [if_pos (by rfl)]
  go_simp
  go_at_call 11
  refine (law04_example _).mono ?_
  rintro e w5 ⟨rfl, b5⟩
  replace HS := SMS.after HS b5
  clear b5
  go_wp2_with fail
  refine hK.out _ _ (by exact ⟨⟨HS.1.cell 0, HS.1.cell 1, HS.1.cell 2, HS.1.cell 3, HS.1.cell 4, HS.1.cell 5, HS.1.cell 6⟩, ⟨HS.2.1.cell 0, HS.2.1.cell 1, HS.2.1.cell 2, HS.2.1.cell 3, HS.2.1.cell 4, HS.2.1.cell 5, HS.2.1.cell 6⟩, HS⟩) (fun hHeld => ?_)
  clear hK K
  try simp only [Act.put, List.setIfInBounds_toArray, List.set_cons_zero, List.set_cons_succ]
  refine wpAnyH_take2 (i := 14) (by simp only [List.getElem?_toArray, List.getElem?_cons_succ, List.getElem?_cons_zero]; first | done | exact rfl) ⟨?_, by kernel_rfl, by kernel_rfl, by kernel_rfl, fun _ _ _ h => h, Or.inl ⟨by rfl, ?_⟩, by assumption, ?_⟩
  rotate_left 1
  · (intro w9 hSw; (try dsimp only at hSw); go_simp; try (with_reducible rfl))
  try simp only [Act.put, List.setIfInBounds_toArray, List.set_cons_zero, List.set_cons_succ]
  refine wpAnyH_take2 (i := 15) (by simp only [List.getElem?_toArray, List.getElem?_cons_succ, List.getElem?_cons_zero]; first | done | exact rfl) ⟨?_, by kernel_rfl, by kernel_rfl, by kernel_rfl, fun _ _ _ h => h, Or.inl ⟨by rfl, ?_⟩, by assumption, ?_⟩
  rotate_left 1
  · (intro w9 hSw; (try dsimp only at hSw); go_simp; try (with_reducible rfl))
  try simp only [Act.put, List.setIfInBounds_toArray, List.set_cons_zero, List.set_cons_succ]
  refine wpAnyH_done (by kernel_rfl) ?_ _
  refine NoPanic.normal ?_
  go_wp2_with fail
  go_ret
  exact ⟨rfl, HS.2.2.2.2⟩
end Go.Proofs.Ytapfiapjefnjjaa
