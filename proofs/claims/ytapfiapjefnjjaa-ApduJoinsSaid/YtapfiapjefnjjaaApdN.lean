/-
  The walks of the statements ApduClasses and ApduCommands.
-/
import Derived.Test.YtapfiapjefnjjaaApdM
import Derived.Test.YtapfiapjefnjjaaOctL
namespace Go.Proofs.Ytapfiapjefnjjaa
set_option linter.unusedSimpArgs false
open Go.RowKit

theorem encB_le (cla ins p1 p2 : Int) (d : List UInt8) (le : Int) (long : Bool) : (Apd.encB cla ins p1 p2 d le long).length ≤ d.length + 9 := by
  have h : Apd.wid long ≤ 2 := by cases long <;> decide
  unfold Apd.encB
  simp only [List.length_append, List.length_cons, List.length_nil]
  have h1 : (if long = true then [(0 : UInt8)] else []).length ≤ 1 := by split <;> simp
  have h2 : (if 0 < d.length then Oct.putB d.length (Apd.wid long) ++ d else []).length ≤ d.length + 2 := by
    split
    · rw [List.length_append, Oct.putB_length]; omega
    · simp
  have h3 : (if 0 < le then Oct.putB le.toNat (Apd.wid long) else []).length ≤ 2 := by
    split
    · rw [Oct.putB_length]; omega
    · simp
  omega
theorem encR_le (cla ins p1 p2 : Int) (d : List UInt8) (le : Int) (long : Bool) : (Apd.encR cla ins p1 p2 d le long).length ≤ d.length + 9 := by
  unfold Apd.encR
  split
  · exact encB_le _ _ _ _ _ _ _
  · simp

/-- What stays while the last line of a statement about a command calls one function after another. -/
def ACS (w : World) (g : Nat) (t : TypeId) (cs : Array Value) (A1 A2 : Option Addr) (c1 c2 : Nat) (X : List UInt8) (u : World) : Prop :=
  Blk u g t cs ∧ Byt u u.heap.size A1 X.length c1 X ∧ Byt u u.heap.size A2 X.length c2 X ∧ Below w.heap.size w u
theorem ACS.after {w u u' : World} {g : Nat} {t : TypeId} {cs : Array Value} {A1 A2 : Option Addr} {c1 c2 : Nat} {X : List UInt8} (h : ACS w g t cs A1 A2 c1 c2 X u) (hb : Below u.heap.size u u') : ACS w g t cs A1 A2 c1 c2 X u' :=
  ⟨h.1.after hb, h.2.1.after hb, h.2.2.1.after hb, bgo h.2.2.2 hb⟩
theorem ACS.drew {w u : World} {g : Nat} {t : TypeId} {cs : Array Value} {A1 A2 : Option Addr} {c1 c2 : Nat} {X : List UInt8} (h : ACS w g t cs A1 A2 c1 c2 X u) : ACS w g t cs A1 A2 c1 c2 X u.drew :=
  ⟨h.1, h.2.1, h.2.2.1, h.2.2.2.drew⟩

set_option maxRecDepth 100000 in
set_option maxHeartbeats 80000000 in
theorem law_ApduCommands (cla ins p1 p2 : Int) (A : Option Addr) (n c : Nat) (le : Int) (long : Bool) (d : List UInt8) (w : World) (h : Byt w w.heap.size A n c d) :
    Calls Try.prog 3 #[cmdV cla ins p1 p2 A n c le long] w fun e w' => e = .returned (.bool true) ∧ Below w.heap.size w w' := by
  have HBB := Lib.hid (fun o => (Below.refl w.heap.size w).alloc (Nat.le_refl _) o)
  have HNew := Lib.hid (Blk.new w 24 #[I64 cla, I64 ins, I64 p1, I64 p2, .slice A n c, I64 le, .bool long])
  have HY := Lib.hid h
  have k4 := HNew.out.cell 4
  clear h
  by_cases hbig : 70000 < n
  · have q1 : (70000 : Int) < (n : Int) := by omega
    unfold cmdV
    go_enter Try.func3, Try.ntmps3
    go_wp2_with fail
    go_at_call 11
    refine (law04_example _).mono ?_
    rintro e w8 ⟨rfl, b8⟩
    go_wp2_with fail
    go_ret
    exact ⟨rfl, bgo (HBB.out _) b8⟩
  · have q1 : ¬ (70000 : Int) < (n : Int) := by omega
    have hE1 := fun u hu => apdu_Encode cla ins p1 p2 A n c le long d u hu
    have hE2 := fun u hu => ref04_Encode cla ins p1 p2 A n c le long d u hu
    have hC1 := fun u => apdu_Check cla ins p1 p2 A n c le long u
    have hC2 := fun u => ref04_Check cla ins p1 p2 A n c le long u
    have hK1 := fun u => apdu_Case cla ins p1 p2 A n c le long u
    have hK2 := fun u => ref04_Case cla ins p1 p2 A n c le long u
    unfold cmdV at hE1 hE2 hC1 hC2 hK1 hK2 ⊢
    have hX : (Apd.encR cla ins p1 p2 d le long).length ≤ 1000000 := by have := encR_le cla ins p1 p2 d le long; have := HY.out.1; omega
    generalize Apd.chk cla ins p1 p2 n le long = z at *
    generalize Apd.cas cla ins p1 p2 n le long = z2 at *
    generalize Apd.encR cla ins p1 p2 d le long = X at *
    have HE1 := Lib.hid hE1
    have HE2 := Lib.hid hE2
    have HC1 := Lib.hid hC1
    have HC2 := Lib.hid hC2
    have HK1 := Lib.hid hK1
    have HK2 := Lib.hid hK2
    clear hE1 hE2 hC1 hC2 hK1 hK2
    go_enter Try.func3, Try.ntmps3
    go_wp2_with ((with_reducible show wpList _ _ _ (Oper.mk _ (Op.load 24 (Operand.tmp 1)) _ _ _ _ :: _) _ _); refine wpList_load_row rfl 24 (.tmp 1) rfl w.heap.size rfl 24 _ (0, 0) _ HNew.out Try.underlying24 rfl (by kernel_rfl) ?_)
    go_at_call 12
    refine (HE1.out _ (by exact HY.out.alloc' _)).mono ?_
    rintro e w2 ⟨A1, c1, rfl, o1, b2⟩
    have HN2 := Lib.hid (HNew.out.after b2)
    have HW2 := Lib.hid (bgo (HBB.out _) b2)
    go_wp2_with ((with_reducible show wpList _ _ _ (Oper.mk _ (Op.load 24 (Operand.tmp 1)) _ _ _ _ :: _) _ _); refine wpList_load_row rfl 24 (.tmp 1) rfl w.heap.size rfl 24 _ (0, 0) _ HN2.out Try.underlying24 rfl (by kernel_rfl) ?_)
    go_at_call 13
    refine (HE2.out _ (by exact HY.out.after HW2.out)).mono ?_
    rintro e w3 ⟨A2, c2, rfl, o2, b3⟩
    have HS : ACS w w.heap.size 24 #[I64 cla, I64 ins, I64 p1, I64 p2, .slice A n c, I64 le, .bool long] A1 A2 c1 c2 X w3 := ⟨HN2.out.after b3, (o1.byt (Nat.le_refl _)).after b3, o2.byt (Nat.le_refl _), bgo HW2.out b3⟩
    clear o1 o2 b2 b3 HN2 HW2 k4 q1 HBB HNew HE1 HE2
    go_upto_region 5 with fail
    replace HS := ACS.drew HS
    refine wp_region_noPanic ?_
    refine wp_region_held_drew (S := fun u => (u.cell? ⟨w.heap.size, 0, none⟩ = some (I64 cla) ∧ u.cell? ⟨w.heap.size, 1, none⟩ = some (I64 ins) ∧ u.cell? ⟨w.heap.size, 2, none⟩ = some (I64 p1) ∧ u.cell? ⟨w.heap.size, 3, none⟩ = some (I64 p2) ∧ u.cell? ⟨w.heap.size, 4, none⟩ = some (.slice A n c) ∧ u.cell? ⟨w.heap.size, 5, none⟩ = some (I64 le) ∧ u.cell? ⟨w.heap.size, 6, none⟩ = some (.bool long)) ∧ ACS w w.heap.size 24 #[I64 cla, I64 ins, I64 p1, I64 p2, .slice A n c, I64 le, .bool long] A1 A2 c1 c2 X u) (by kernel_rfl) (by exact ⟨⟨HS.1.cell 0, HS.1.cell 1, HS.1.cell 2, HS.1.cell 3, HS.1.cell 4, HS.1.cell 5, HS.1.cell 6⟩, HS⟩) (fun hHeld => ?_)
    refine wpAnyH_take2 (i := 0) (by simp only [List.getElem?_toArray, List.getElem?_cons_succ, List.getElem?_cons_zero]; first | done | exact rfl) ⟨?_, by kernel_rfl, by kernel_rfl, by kernel_rfl, fun _ _ _ h => h, Or.inl ⟨by rfl, ?_⟩, by assumption, ?_⟩
    rotate_left 1
    · (intro w9 hSw; (try dsimp only at hSw); go_simp; try (with_reducible rfl))
    try simp only [Act.put, List.setIfInBounds_toArray, List.set_cons_zero, List.set_cons_succ]
    refine wpAnyH_take2 (i := 2) (by simp only [List.getElem?_toArray, List.getElem?_cons_succ, List.getElem?_cons_zero]; first | done | exact rfl) ⟨?_, by kernel_rfl, by kernel_rfl, by kernel_rfl, fun _ _ _ h => h, Or.inl ⟨by rfl, ?_⟩, by assumption, ?_⟩
    rotate_left 1
    · (intro w9 hSw; (try dsimp only at hSw); go_simp; try (with_reducible rfl))
    try simp only [Act.put, List.setIfInBounds_toArray, List.set_cons_zero, List.set_cons_succ]
    refine wpAnyH_ready (rs := [1]) (by kernel_rfl) (by simp) ?_
    refine AllReadyH.cons2 (by simp only [List.getElem?_toArray, List.getElem?_cons_succ, List.getElem?_cons_zero]; first | done | exact rfl) (fun K hK => ?_)
    rw [if_pos (by rfl)]
    go_simp
    go_at_call 14
    refine (HC1.out _).mono ?_
    rintro e w5 ⟨rfl, b5⟩
    replace HS := ACS.after HS b5
    clear b5
    go_wp2_with fail
    refine hK.out _ _ (by exact ⟨⟨HS.1.cell 0, HS.1.cell 1, HS.1.cell 2, HS.1.cell 3, HS.1.cell 4, HS.1.cell 5, HS.1.cell 6⟩, HS⟩) (fun hHeld => ?_)
    clear hK K
    try simp only [Act.put, List.setIfInBounds_toArray, List.set_cons_zero, List.set_cons_succ]
    refine wpAnyH_ready (rs := [3]) (by kernel_rfl) (by simp) ?_
    refine AllReadyH.cons2 (by simp only [List.getElem?_toArray, List.getElem?_cons_succ, List.getElem?_cons_zero]; first | done | exact rfl) (fun K hK => ?_)
    rw [if_pos (by rfl)]
    go_simp
    go_at_call 15
    refine (HC2.out _).mono ?_
    rintro e w5 ⟨rfl, b5⟩
    replace HS := ACS.after HS b5
    clear b5
    go_wp2_with fail
    refine hK.out _ _ (by exact ⟨⟨HS.1.cell 0, HS.1.cell 1, HS.1.cell 2, HS.1.cell 3, HS.1.cell 4, HS.1.cell 5, HS.1.cell 6⟩, HS⟩) (fun hHeld => ?_)
    clear hK K
    try simp only [Act.put, List.setIfInBounds_toArray, List.set_cons_zero, List.set_cons_succ]
    refine wpAnyH_take2 (i := 4) (by simp only [List.getElem?_toArray, List.getElem?_cons_succ, List.getElem?_cons_zero]; first | done | exact rfl) ⟨?_, by kernel_rfl, by kernel_rfl, by kernel_rfl, fun _ _ _ h => h, Or.inl ⟨by rfl, ?_⟩, by assumption, ?_⟩
    rotate_left 1
    · (intro w9 hSw; (try dsimp only at hSw); go_simp; try (with_reducible rfl))
    try simp only [Act.put, List.setIfInBounds_toArray, List.set_cons_zero, List.set_cons_succ]
    refine wpAnyH_take2 (i := 5) (by simp only [List.getElem?_toArray, List.getElem?_cons_succ, List.getElem?_cons_zero]; first | done | exact rfl) ⟨?_, by kernel_rfl, by kernel_rfl, by kernel_rfl, fun _ _ _ h => h, Or.inl ⟨by rfl, ?_⟩, by assumption, ?_⟩
    rotate_left 1
    · (intro w9 hSw; (try dsimp only at hSw); go_simp; try (with_reducible rfl))
    try simp only [Act.put, List.setIfInBounds_toArray, List.set_cons_zero, List.set_cons_succ]
    refine wpAnyH_take2 (i := 6) (by simp only [List.getElem?_toArray, List.getElem?_cons_succ, List.getElem?_cons_zero]; first | done | exact rfl) ⟨?_, by kernel_rfl, by kernel_rfl, by kernel_rfl, fun _ _ _ h => h, Or.inl ⟨by rfl, ?_⟩, by assumption, ?_⟩
    rotate_left 1
    · (intro w9 hSw; (try dsimp only at hSw); go_simp; try (with_reducible rfl))
    try simp only [Act.put, List.setIfInBounds_toArray, List.set_cons_zero, List.set_cons_succ]
    refine wpAnyH_take2 (i := 8) (by simp only [List.getElem?_toArray, List.getElem?_cons_succ, List.getElem?_cons_zero]; first | done | exact rfl) ⟨?_, by kernel_rfl, by kernel_rfl, by kernel_rfl, fun _ _ _ h => h, Or.inl ⟨by rfl, ?_⟩, by assumption, ?_⟩
    rotate_left 1
    · (intro w9 hSw; (try dsimp only at hSw); go_simp; try (with_reducible rfl))
    try simp only [Act.put, List.setIfInBounds_toArray, List.set_cons_zero, List.set_cons_succ]
    refine wpAnyH_ready (rs := [7]) (by kernel_rfl) (by simp) ?_
    refine AllReadyH.cons2 (by simp only [List.getElem?_toArray, List.getElem?_cons_succ, List.getElem?_cons_zero]; first | done | exact rfl) (fun K hK => ?_)
    rw [if_pos (by rfl)]
    go_simp
    go_at_call 16
    refine (HK1.out _).mono ?_
    rintro e w5 ⟨rfl, b5⟩
    replace HS := ACS.after HS b5
    clear b5
    go_wp2_with fail
    refine hK.out _ _ (by exact ⟨⟨HS.1.cell 0, HS.1.cell 1, HS.1.cell 2, HS.1.cell 3, HS.1.cell 4, HS.1.cell 5, HS.1.cell 6⟩, HS⟩) (fun hHeld => ?_)
    clear hK K
    try simp only [Act.put, List.setIfInBounds_toArray, List.set_cons_zero, List.set_cons_succ]
    refine wpAnyH_ready (rs := [9]) (by kernel_rfl) (by simp) ?_
    refine AllReadyH.cons2 (by simp only [List.getElem?_toArray, List.getElem?_cons_succ, List.getElem?_cons_zero]; first | done | exact rfl) (fun K hK => ?_)
    rw [if_pos (by rfl)]
    go_simp
    go_at_call 17
    refine (HK2.out _).mono ?_
    rintro e w5 ⟨rfl, b5⟩
    replace HS := ACS.after HS b5
    clear b5
    go_wp2_with fail
    refine hK.out _ _ (by exact ⟨⟨HS.1.cell 0, HS.1.cell 1, HS.1.cell 2, HS.1.cell 3, HS.1.cell 4, HS.1.cell 5, HS.1.cell 6⟩, HS⟩) (fun hHeld => ?_)
    clear hK K
    try simp only [Act.put, List.setIfInBounds_toArray, List.set_cons_zero, List.set_cons_succ]
    refine wpAnyH_take2 (i := 10) (by simp only [List.getElem?_toArray, List.getElem?_cons_succ, List.getElem?_cons_zero]; first | done | exact rfl) ⟨?_, by kernel_rfl, by kernel_rfl, by kernel_rfl, fun _ _ _ h => h, Or.inl ⟨by rfl, ?_⟩, by assumption, ?_⟩
    rotate_left 1
    · (intro w9 hSw; (try dsimp only at hSw); go_simp; try (with_reducible rfl))
    try simp only [Act.put, List.setIfInBounds_toArray, List.set_cons_zero, List.set_cons_succ]
    refine wpAnyH_take2 (i := 11) (by simp only [List.getElem?_toArray, List.getElem?_cons_succ, List.getElem?_cons_zero]; first | done | exact rfl) ⟨?_, by kernel_rfl, by kernel_rfl, by kernel_rfl, fun _ _ _ h => h, Or.inl ⟨by rfl, ?_⟩, by assumption, ?_⟩
    rotate_left 1
    · (intro w9 hSw; (try dsimp only at hSw); go_simp; try (with_reducible rfl))
    try simp only [Act.put, List.setIfInBounds_toArray, List.set_cons_zero, List.set_cons_succ]
    refine wpAnyH_take2 (i := 12) (by simp only [List.getElem?_toArray, List.getElem?_cons_succ, List.getElem?_cons_zero]; first | done | exact rfl) ⟨?_, by kernel_rfl, by kernel_rfl, by kernel_rfl, fun _ _ _ h => h, Or.inl ⟨by rfl, ?_⟩, by assumption, ?_⟩
    rotate_left 1
    · (intro w9 hSw; (try dsimp only at hSw); go_simp; try (with_reducible rfl))
    try simp only [Act.put, List.setIfInBounds_toArray, List.set_cons_zero, List.set_cons_succ]
    refine wpAnyH_take2 (i := 13) (by simp only [List.getElem?_toArray, List.getElem?_cons_succ, List.getElem?_cons_zero]; first | done | exact rfl) ⟨?_, by kernel_rfl, by kernel_rfl, by kernel_rfl, fun _ _ _ h => h, Or.inl ⟨by rfl, ?_⟩, by assumption, ?_⟩
    rotate_left 1
    · (intro w9 hSw; (try dsimp only at hSw); go_simp; try (with_reducible rfl))
    try simp only [Act.put, List.setIfInBounds_toArray, List.set_cons_zero, List.set_cons_succ]
    refine wpAnyH_take2 (i := 14) (by simp only [List.getElem?_toArray, List.getElem?_cons_succ, List.getElem?_cons_zero]; first | done | exact rfl) ⟨?_, by kernel_rfl, by kernel_rfl, by kernel_rfl, fun _ _ _ h => h, Or.inl ⟨by rfl, ?_⟩, by assumption, ?_⟩
    rotate_left 1
    · (intro w9 hSw; (try dsimp only at hSw); go_simp; try (with_reducible rfl))
    try simp only [Act.put, List.setIfInBounds_toArray, List.set_cons_zero, List.set_cons_succ]
    refine wpAnyH_take2 (i := 15) (by simp only [List.getElem?_toArray, List.getElem?_cons_succ, List.getElem?_cons_zero]; first | done | exact rfl) ⟨?_, by kernel_rfl, by kernel_rfl, by kernel_rfl, fun _ _ _ h => h, Or.inl ⟨by rfl, ?_⟩, by assumption, ?_⟩
    rotate_left 1
    · (intro w9 hSw; (try dsimp only at hSw); go_simp; try (with_reducible rfl))
    try simp only [Act.put, List.setIfInBounds_toArray, List.set_cons_zero, List.set_cons_succ]
    refine wpAnyH_take2 (i := 16) (by simp only [List.getElem?_toArray, List.getElem?_cons_succ, List.getElem?_cons_zero]; first | done | exact rfl) ⟨?_, by kernel_rfl, by kernel_rfl, by kernel_rfl, fun _ _ _ h => h, Or.inl ⟨by rfl, ?_⟩, by assumption, ?_⟩
    rotate_left 1
    · (intro w9 hSw; (try dsimp only at hSw); go_simp; try (with_reducible rfl))
    try simp only [Act.put, List.setIfInBounds_toArray, List.set_cons_zero, List.set_cons_succ]
    refine wpAnyH_take2 (i := 17) (by simp only [List.getElem?_toArray, List.getElem?_cons_succ, List.getElem?_cons_zero]; first | done | exact rfl) ⟨?_, by kernel_rfl, by kernel_rfl, by kernel_rfl, fun _ _ _ h => h, Or.inl ⟨by rfl, ?_⟩, by assumption, ?_⟩
    rotate_left 1
    · (intro w9 hSw; (try dsimp only at hSw); go_simp; try (with_reducible rfl))
    try simp only [Act.put, List.setIfInBounds_toArray, List.set_cons_zero, List.set_cons_succ]
    refine wpAnyH_take2 (i := 18) (by simp only [List.getElem?_toArray, List.getElem?_cons_succ, List.getElem?_cons_zero]; first | done | exact rfl) ⟨?_, by kernel_rfl, by kernel_rfl, by kernel_rfl, fun _ _ _ h => h, Or.inl ⟨by rfl, ?_⟩, by assumption, ?_⟩
    rotate_left 1
    · (intro w9 hSw; (try dsimp only at hSw); go_simp; try (with_reducible rfl))
    try simp only [Act.put, List.setIfInBounds_toArray, List.set_cons_zero, List.set_cons_succ]
    refine wpAnyH_take2 (i := 19) (by simp only [List.getElem?_toArray, List.getElem?_cons_succ, List.getElem?_cons_zero]; first | done | exact rfl) ⟨?_, by kernel_rfl, by kernel_rfl, by kernel_rfl, fun _ _ _ h => h, Or.inl ⟨by rfl, ?_⟩, by assumption, ?_⟩
    rotate_left 1
    · (intro w9 hSw; (try dsimp only at hSw); go_simp; try (with_reducible rfl))
    try simp only [Act.put, List.setIfInBounds_toArray, List.set_cons_zero, List.set_cons_succ]
    refine wpAnyH_ready (rs := [20]) (by kernel_rfl) (by simp) ?_
    refine AllReadyH.cons2 (by simp only [List.getElem?_toArray, List.getElem?_cons_succ, List.getElem?_cons_zero]; first | done | exact rfl) (fun K hK => ?_)
    rw [if_pos (by rfl)]
    go_simp
    go_at_call 18
    refine (ref01_SameT _ _ _ _ _ _ _ _ HS.2.1 HS.2.2.1 (by omega)).mono ?_
    rintro e w5 ⟨rfl, k5, rfl⟩
    replace HS := ACS.after HS (Below.drewN (Below.refl _ _) k5)
    go_wp2_with fail
    refine hK.out _ _ (by exact ⟨⟨HS.1.cell 0, HS.1.cell 1, HS.1.cell 2, HS.1.cell 3, HS.1.cell 4, HS.1.cell 5, HS.1.cell 6⟩, HS⟩) (fun hHeld => ?_)
    clear hK K
    try simp only [Act.put, List.setIfInBounds_toArray, List.set_cons_zero, List.set_cons_succ]
    refine wpAnyH_take2 (i := 21) (by simp only [List.getElem?_toArray, List.getElem?_cons_succ, List.getElem?_cons_zero]; first | done | exact rfl) ⟨?_, by kernel_rfl, by kernel_rfl, by kernel_rfl, fun _ _ _ h => h, Or.inl ⟨by rfl, ?_⟩, by assumption, ?_⟩
    rotate_left 1
    · (intro w9 hSw; (try dsimp only at hSw); go_simp; try (with_reducible rfl))
    try simp only [Act.put, List.setIfInBounds_toArray, List.set_cons_zero, List.set_cons_succ]
    refine wpAnyH_take2 (i := 22) (by simp only [List.getElem?_toArray, List.getElem?_cons_succ, List.getElem?_cons_zero]; first | done | exact rfl) ⟨?_, by kernel_rfl, by kernel_rfl, by kernel_rfl, fun _ _ _ h => h, Or.inl ⟨by rfl, ?_⟩, by assumption, ?_⟩
    rotate_left 1
    · (intro w9 hSw; (try dsimp only at hSw); go_simp; try (with_reducible rfl))
    try simp only [Act.put, List.setIfInBounds_toArray, List.set_cons_zero, List.set_cons_succ]
    refine wpAnyH_ready (rs := [23]) (by kernel_rfl) (by simp) ?_
    refine AllReadyH.cons2 (by simp only [List.getElem?_toArray, List.getElem?_cons_succ, List.getElem?_cons_zero]; first | done | exact rfl) (fun K hK => ?_)
    rw [if_pos (by rfl)]
    go_simp
    go_at_call 11
    refine (law04_example _).mono ?_
    rintro e w5 ⟨rfl, b5⟩
    replace HS := ACS.after HS b5
    clear b5
    go_wp2_with fail
    refine hK.out _ _ (by exact ⟨⟨HS.1.cell 0, HS.1.cell 1, HS.1.cell 2, HS.1.cell 3, HS.1.cell 4, HS.1.cell 5, HS.1.cell 6⟩, HS⟩) (fun hHeld => ?_)
    clear hK K
    try simp only [Act.put, List.setIfInBounds_toArray, List.set_cons_zero, List.set_cons_succ]
    refine wpAnyH_take2 (i := 24) (by simp only [List.getElem?_toArray, List.getElem?_cons_succ, List.getElem?_cons_zero]; first | done | exact rfl) ⟨?_, by kernel_rfl, by kernel_rfl, by kernel_rfl, fun _ _ _ h => h, Or.inl ⟨by rfl, ?_⟩, by assumption, ?_⟩
    rotate_left 1
    · (intro w9 hSw; (try dsimp only at hSw); go_simp; try (with_reducible rfl))
    try simp only [Act.put, List.setIfInBounds_toArray, List.set_cons_zero, List.set_cons_succ]
    refine wpAnyH_take2 (i := 25) (by simp only [List.getElem?_toArray, List.getElem?_cons_succ, List.getElem?_cons_zero]; first | done | exact rfl) ⟨?_, by kernel_rfl, by kernel_rfl, by kernel_rfl, fun _ _ _ h => h, Or.inl ⟨by rfl, ?_⟩, by assumption, ?_⟩
    rotate_left 1
    · (intro w9 hSw; (try dsimp only at hSw); go_simp; try (with_reducible rfl))
    try simp only [Act.put, List.setIfInBounds_toArray, List.set_cons_zero, List.set_cons_succ]
    refine wpAnyH_done (by kernel_rfl) ?_ _
    refine NoPanic.normal ?_
    go_wp2_with fail
    go_ret
    exact ⟨rfl, HS.2.2.2⟩
end Go.Proofs.Ytapfiapjefnjjaa
