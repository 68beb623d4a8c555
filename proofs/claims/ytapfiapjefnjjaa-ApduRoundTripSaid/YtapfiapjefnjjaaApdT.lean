/-
  The walk of the reference's Decode.
-/
import Derived.Test.YtapfiapjefnjjaaApdS
namespace Go.Proofs.Ytapfiapjefnjjaa
set_option linter.unusedSimpArgs false
open Go.RowKit

theorem Apd.bdE_nil : Apd.bdE [] = 0 ∧ Apd.bdD [] = [] ∧ Apd.bdL [] = 0 ∧ Apd.bdG [] = false := ⟨rfl, rfl, rfl, rfl⟩

set_option maxRecDepth 100000 in
set_option maxHeartbeats 32000000 in
theorem ref04_Decode (A : Option Addr) (n c : Nat) (b : List UInt8) (w : World) (h : Byt w w.heap.size A n c b) (hn : n ≤ 1000000) :
    Calls Try.prog 26 #[.slice A n c] w (DRes w b) := by
  have hl := h.1
  have HB := Lib.hid (fun o => (Below.refl w.heap.size w).alloc (Nat.le_refl _) o)
  unfold DRes
  by_cases h4 : n < 4
  · have e : Apd.dcE b = 5 := by unfold Apd.dcE; rw [if_pos (by omega)]
    rw [e]
    clear e h hl
    go_enter Try.func26, Try.ntmps26
    go_wp2_with fail
    refine bodyPost_ret (results_row_tmp rfl _ _ w.heap.size 24 _ (0, 0) _ rfl (Blk.new' _ (by simp) rfl) Try.underlying24 rfl (by kernel_rfl)) rfl ⟨HB.out _, .inl ⟨by decide, rfl⟩⟩
  obtain ⟨m, rfl⟩ : ∃ m, n = 4 + m := ⟨n - 4, by omega⟩
  obtain ⟨bb, o, rfl, hbb⟩ := h.at_ (by omega)
  have HQ := Lib.hid (fun (u : World) (hb : Below w.heap.size w u) => (⟨by have := (h.below hb).2.2.byte 0 (by omega); rwa [Nat.add_zero] at this, (h.below hb).2.2.byte 1 (by omega), (h.below hb).2.2.byte 2 (by omega), (h.below hb).2.2.byte 3 (by omega)⟩ :
    u.cell? ⟨bb, o, none⟩ = some (.int .u8 (Apd.cel b 0)) ∧ u.cell? ⟨bb, o + 1, none⟩ = some (.int .u8 (Apd.cel b 1)) ∧ u.cell? ⟨bb, o + 2, none⟩ = some (.int .u8 (Apd.cel b 2)) ∧ u.cell? ⟨bb, o + 3, none⟩ = some (.int .u8 (Apd.cel b 3))))
  have hcel : ∀ i, 0 ≤ Apd.cel b i ∧ Apd.cel b i < 256 := fun i => ⟨by unfold Apd.cel; omega, by unfold Apd.cel; have := (b.getD i 0).toNat_lt; omega⟩
  have c0 := hcel 0
  have c1 := hcel 1
  have c2 := hcel 2
  have c3 := hcel 3
  have HD := Lib.hid (Byt.drop h 4 (by omega))
  rw [Nat.add_sub_cancel_left] at HD
  have hE : Apd.dcE b = if Apd.bdE (b.drop 4) ≠ 0 then Apd.bdE (b.drop 4) else Apd.chk (Apd.cel b 0) (Apd.cel b 1) (Apd.cel b 2) (Apd.cel b 3) (Apd.bdD (b.drop 4)).length (Apd.bdL (b.drop 4) : Int) (Apd.bdG (b.drop 4)) := by unfold Apd.dcE; rw [if_neg (by omega)]
  have hnc := h.2.1
  have HE := Lib.hid hE
  have h4b := Lib.hid h
  clear hE h hcel hl
  generalize Apd.cel b 0 = x0 at *
  generalize Apd.cel b 1 = x1 at *
  generalize Apd.cel b 2 = x2 at *
  generalize Apd.cel b 3 = x3 at *
  have hx4 : 0 < m → b.getD 4 0 = (b.drop 4).getD 0 0 := fun _ => by simp [List.getD]
  have hq4 : 0 < m → Hid (∀ u, Below w.heap.size w u → u.cell? ⟨bb, o + 4, none⟩ = some (.int .u8 ((b.getD 4 0).toNat : Int))) := fun hm u hu => (h4b.out.below hu).2.2.byte 4 (by rw [h4b.out.1]; omega)
  generalize b.drop 4 = d at *
  have hCk := fun (r0 r1 r2 r3 : Int) (A5 : Option Addr) (n5 c5 : Nat) (l5 : Int) (g5 : Bool) (u : World) => ref04_Check r0 r1 r2 r3 A5 n5 c5 l5 g5 u
  unfold cmdV at hCk
  have HCk := Lib.hid hCk
  clear hCk
  have HP := Lib.hid (Apd.bdE_nil)
  have v0 : IntKind.i64.wrap x0 = x0 := IntWalk.i64_in _ (by omega)
  have v1 : IntKind.i64.wrap x1 = x1 := IntWalk.i64_in _ (by omega)
  have v2 : IntKind.i64.wrap x2 = x2 := IntWalk.i64_in _ (by omega)
  have v3 : IntKind.i64.wrap x3 = x3 := IntWalk.i64_in _ (by omega)
  have p0 : (0 : Int) < 4 + (m : Int) := by omega
  have p1 : (1 : Int) < 4 + (m : Int) := by omega
  have p2 : (2 : Int) < 4 + (m : Int) := by omega
  have p3 : (3 : Int) < 4 + (m : Int) := by omega
  by_cases hm0 : m = 0
  · subst hm0
    obtain rfl : d = [] := List.eq_nil_of_length_eq_zero HD.out.1
    obtain ⟨e1, e2, e3, e4⟩ := HP.out
    rw [e1, e2, e3, e4, if_neg (fun e => e rfl)] at HE
    have HEE := Lib.hid HE.out
    have HEN := Lib.hid HP.out
    have HO0 := Own.none_ w (w.heap.size + 1) 5 1 none
    clear e1 e2 e3 e4 HE HP HD hx4 hq4 h4b
    simp only [Nat.add_zero] at *
    clear p0 p1 p2 p3
    go_enter Try.func26, Try.ntmps26
    go_upto_region 3 with fail
    refine wp_region_noPanic ?_
    refine wp_region_held_drew (S := fun u => u.cell? ⟨bb, o, none⟩ = some (.int .u8 x0) ∧ u.cell? ⟨bb, o + 1, none⟩ = some (.int .u8 x1) ∧ u.cell? ⟨bb, o + 2, none⟩ = some (.int .u8 x2) ∧ u.cell? ⟨bb, o + 3, none⟩ = some (.int .u8 x3)) (by kernel_rfl) (by exact HQ.out _ (HB.out _).drew) (fun hHeld => ?_)
    refine wpAnyH_take2 (i := 0) (by simp only [List.getElem?_toArray, List.getElem?_cons_succ, List.getElem?_cons_zero]; first | done | exact rfl) ⟨?_, by kernel_rfl, by kernel_rfl, by kernel_rfl, fun _ _ _ h => h, Or.inl ⟨by rfl, ?_⟩, by assumption, ?_⟩
    rotate_left 1
    · (intro w9 hSw; (try dsimp only at hSw); go_simp; try (with_reducible rfl))
    try simp only [Act.put, List.setIfInBounds_toArray, List.set_cons_zero, List.set_cons_succ]
    refine wpAnyH_take2 (i := 1) (by simp only [List.getElem?_toArray, List.getElem?_cons_succ, List.getElem?_cons_zero]; first | done | exact rfl) ⟨?_, by kernel_rfl, by kernel_rfl, by kernel_rfl, fun _ _ _ h => h, Or.inl ⟨by rfl, ?_⟩, by assumption, ?_⟩
    rotate_left 1
    · (intro w9 hSw; (try dsimp only at hSw); go_simp; try (with_reducible rfl))
    try simp only [Act.put, List.setIfInBounds_toArray, List.set_cons_zero, List.set_cons_succ]
    refine wpAnyH_take2 (i := 2) (by simp only [List.getElem?_toArray, List.getElem?_cons_succ, List.getElem?_cons_zero]; first | done | exact rfl) ⟨?_, by kernel_rfl, by kernel_rfl, by kernel_rfl, fun _ _ _ h => h, Or.inl ⟨by rfl, ?_⟩, by assumption, ?_⟩
    rotate_left 1
    · (intro w9 hSw; (try dsimp only at hSw); go_simp; try (with_reducible rfl))
    try simp only [Act.put, List.setIfInBounds_toArray, List.set_cons_zero, List.set_cons_succ]
    refine wpAnyH_take2 (i := 3) (by simp only [List.getElem?_toArray, List.getElem?_cons_succ, List.getElem?_cons_zero]; first | done | exact rfl) ⟨?_, by kernel_rfl, by kernel_rfl, by kernel_rfl, fun _ _ _ h => h, Or.inl ⟨by rfl, ?_⟩, by assumption, ?_⟩
    rotate_left 1
    · (intro w9 hSw; (try dsimp only at hSw); go_simp; try (with_reducible rfl))
    try simp only [Act.put, List.setIfInBounds_toArray, List.set_cons_zero, List.set_cons_succ]
    refine wpAnyH_take2 (i := 4) (by simp only [List.getElem?_toArray, List.getElem?_cons_succ, List.getElem?_cons_zero]; first | done | exact rfl) ⟨?_, by kernel_rfl, by kernel_rfl, by kernel_rfl, fun _ _ _ h => h, Or.inl ⟨by rfl, ?_⟩, by assumption, ?_⟩
    rotate_left 1
    · (intro w9 hSw; (try dsimp only at hSw); go_simp; try (with_reducible rfl))
    try simp only [Act.put, List.setIfInBounds_toArray, List.set_cons_zero, List.set_cons_succ]
    refine wpAnyH_take2 (i := 5) (by simp only [List.getElem?_toArray, List.getElem?_cons_succ, List.getElem?_cons_zero]; first | done | exact rfl) ⟨?_, by kernel_rfl, by kernel_rfl, by kernel_rfl, fun _ _ _ h => h, Or.inl ⟨by rfl, ?_⟩, by assumption, ?_⟩
    rotate_left 1
    · (intro w9 hSw; (try dsimp only at hSw); go_simp; try (with_reducible rfl))
    try simp only [Act.put, List.setIfInBounds_toArray, List.set_cons_zero, List.set_cons_succ]
    refine wpAnyH_take2 (i := 6) (by simp only [List.getElem?_toArray, List.getElem?_cons_succ, List.getElem?_cons_zero]; first | done | exact rfl) ⟨?_, by kernel_rfl, by kernel_rfl, by kernel_rfl, fun _ _ _ h => h, Or.inl ⟨by rfl, ?_⟩, by assumption, ?_⟩
    rotate_left 1
    · (intro w9 hSw; (try dsimp only at hSw); go_simp; try (with_reducible rfl))
    try simp only [Act.put, List.setIfInBounds_toArray, List.set_cons_zero, List.set_cons_succ]
    refine wpAnyH_take2 (i := 7) (by simp only [List.getElem?_toArray, List.getElem?_cons_succ, List.getElem?_cons_zero]; first | done | exact rfl) ⟨?_, by kernel_rfl, by kernel_rfl, by kernel_rfl, fun _ _ _ h => h, Or.inl ⟨by rfl, ?_⟩, by assumption, ?_⟩
    rotate_left 1
    · (intro w9 hSw; (try dsimp only at hSw); go_simp; try (with_reducible rfl))
    try simp only [Act.put, List.setIfInBounds_toArray, List.set_cons_zero, List.set_cons_succ]
    refine wpAnyH_take2 (i := 8) (by simp only [List.getElem?_toArray, List.getElem?_cons_succ, List.getElem?_cons_zero]; first | done | exact rfl) ⟨?_, by kernel_rfl, by kernel_rfl, by kernel_rfl, fun _ _ _ h => h, Or.inl ⟨by rfl, ?_⟩, by assumption, ?_⟩
    rotate_left 1
    · (intro w9 hSw; (try dsimp only at hSw); go_simp; try (with_reducible rfl))
    try simp only [Act.put, List.setIfInBounds_toArray, List.set_cons_zero, List.set_cons_succ]
    refine wpAnyH_take2 (i := 9) (by simp only [List.getElem?_toArray, List.getElem?_cons_succ, List.getElem?_cons_zero]; first | done | exact rfl) ⟨?_, by kernel_rfl, by kernel_rfl, by kernel_rfl, fun _ _ _ h => h, Or.inl ⟨by rfl, ?_⟩, by assumption, ?_⟩
    rotate_left 1
    · (intro w9 hSw; (try dsimp only at hSw); go_simp; try (with_reducible rfl))
    try simp only [Act.put, List.setIfInBounds_toArray, List.set_cons_zero, List.set_cons_succ]
    refine wpAnyH_take2 (i := 10) (by simp only [List.getElem?_toArray, List.getElem?_cons_succ, List.getElem?_cons_zero]; first | done | exact rfl) ⟨?_, by kernel_rfl, by kernel_rfl, by kernel_rfl, fun _ _ _ h => h, Or.inl ⟨by rfl, ?_⟩, by assumption, ?_⟩
    rotate_left 1
    · (intro w9 hSw; (try dsimp only at hSw); go_simp; try (with_reducible rfl))
    try simp only [Act.put, List.setIfInBounds_toArray, List.set_cons_zero, List.set_cons_succ]
    refine wpAnyH_take2 (i := 11) (by simp only [List.getElem?_toArray, List.getElem?_cons_succ, List.getElem?_cons_zero]; first | done | exact rfl) ⟨?_, by kernel_rfl, by kernel_rfl, by kernel_rfl, fun _ _ _ h => h, Or.inl ⟨by rfl, ?_⟩, by assumption, ?_⟩
    rotate_left 1
    · (intro w9 hSw; (try dsimp only at hSw); go_simp; try (with_reducible rfl))
    try simp only [Act.put, List.setIfInBounds_toArray, List.set_cons_zero, List.set_cons_succ]
    refine wpAnyH_take2 (i := 12) (by simp only [List.getElem?_toArray, List.getElem?_cons_succ, List.getElem?_cons_zero]; first | done | exact rfl) ⟨?_, by kernel_rfl, by kernel_rfl, by kernel_rfl, fun _ _ _ h => h, Or.inl ⟨by rfl, ?_⟩, by assumption, ?_⟩
    rotate_left 1
    · (intro w9 hSw; (try dsimp only at hSw); go_simp; try (with_reducible rfl))
    try simp only [Act.put, List.setIfInBounds_toArray, List.set_cons_zero, List.set_cons_succ]
    refine wpAnyH_take2 (i := 13) (by simp only [List.getElem?_toArray, List.getElem?_cons_succ, List.getElem?_cons_zero]; first | done | exact rfl) ⟨?_, by kernel_rfl, by kernel_rfl, by kernel_rfl, fun _ _ _ h => h, Or.inl ⟨by rfl, ?_⟩, by assumption, ?_⟩
    rotate_left 1
    · (intro w9 hSw; (try dsimp only at hSw); go_simp; try (with_reducible rfl))
    try simp only [Act.put, List.setIfInBounds_toArray, List.set_cons_zero, List.set_cons_succ]
    refine wpAnyH_take2 (i := 14) (by simp only [List.getElem?_toArray, List.getElem?_cons_succ, List.getElem?_cons_zero]; first | done | exact rfl) ⟨?_, by kernel_rfl, by kernel_rfl, by kernel_rfl, fun _ _ _ h => h, Or.inl ⟨by rfl, ?_⟩, by assumption, ?_⟩
    rotate_left 1
    · (intro w9 hSw; (try dsimp only at hSw); go_simp; try (with_reducible rfl))
    try simp only [Act.put, List.setIfInBounds_toArray, List.set_cons_zero, List.set_cons_succ]
    refine wpAnyH_take2 (i := 15) (by simp only [List.getElem?_toArray, List.getElem?_cons_succ, List.getElem?_cons_zero]; first | done | exact rfl) ⟨?_, by kernel_rfl, by kernel_rfl, by kernel_rfl, fun _ _ _ h => h, Or.inl ⟨by rfl, ?_⟩, by assumption, ?_⟩
    rotate_left 1
    · (intro w9 hSw; (try dsimp only at hSw); go_simp; try (with_reducible rfl))
    try simp only [Act.put, List.setIfInBounds_toArray, List.set_cons_zero, List.set_cons_succ]
    refine wpAnyH_take2 (i := 16) (by simp only [List.getElem?_toArray, List.getElem?_cons_succ, List.getElem?_cons_zero]; first | done | exact rfl) ⟨?_, by kernel_rfl, by kernel_rfl, by kernel_rfl, fun _ _ _ h => h, Or.inl ⟨by rfl, ?_⟩, by assumption, ?_⟩
    rotate_left 1
    · (intro w9 hSw; (try dsimp only at hSw); go_simp; try (with_reducible rfl))
    try simp only [Act.put, List.setIfInBounds_toArray, List.set_cons_zero, List.set_cons_succ]
    refine wpAnyH_ready (rs := [17]) (by kernel_rfl) (by simp) ?_
    refine AllReadyH.cons2 (by simp only [List.getElem?_toArray, List.getElem?_cons_succ, List.getElem?_cons_zero]; first | done | exact rfl) (fun K hK => ?_)
    rw [if_pos (by rfl)]
    go_simp
    refine hK.out _ _ (by exact HQ.out _ (((HB.out _).drew).alloc (by simp) _)) (fun hHeld => ?_)
    clear hK K
    try simp only [Act.put, List.setIfInBounds_toArray, List.set_cons_zero, List.set_cons_succ]
    refine wpAnyH_ready (rs := [18]) (by kernel_rfl) (by simp) ?_
    refine AllReadyH.cons2 (by simp only [List.getElem?_toArray, List.getElem?_cons_succ, List.getElem?_cons_zero]; first | done | exact rfl) (fun K hK => ?_)
    refine step_store_row rfl 24 (.tmp 4) (.tmp 26) rfl (w.heap.size + 1) #[I64 x0, I64 x1, I64 x2, I64 x3, .slice none 0 0, I64 0, .bool false] rfl rfl 24 #[.int .i64 0, .int .i64 0, .int .i64 0, .int .i64 0, .slice none 0 0, .int .i64 0, .bool false] (by exact Blk.new' (g := w.heap.size + 1) _ (by simp) rfl) (by kernel_rfl) rfl (cmd_one _ _ _ _ _ _ _ _ _) ?_
    refine hK.out _ _ (by exact HQ.out _ (Below.setRow (((HB.out _).drew).alloc (by simp) _) (by omega) _)) (fun hHeld => ?_)
    clear hK K
    try simp only [Act.put, List.setIfInBounds_toArray, List.set_cons_zero, List.set_cons_succ]
    refine wpAnyH_done (by kernel_rfl) ?_ _
    refine NoPanic.normal ?_
    clear v0 v1 v2 v3 hHeld c0 c1 c2 c3
    have HW := Lib.hid (Below.setRow (g := w.heap.size + 1) (((HB.out (.cells #[.int .i64 0, .int .i64 0, .int .i64 0, .int .i64 0, .slice none 0 0, .int .i64 0, .bool false] 24)).alloc (by simp) (.cells #[.int .i64 0, .int .i64 0, .int .i64 0, .int .i64 0, .slice none 0 0, .int .i64 0, .bool false] 24)).drew) (by omega) #[I64 x0, I64 x1, I64 x2, I64 x3, .slice none 0 0, I64 0, .bool false])
    have hB0 : Blk (World.setRow ((w.alloc (.cells #[.int .i64 0, .int .i64 0, .int .i64 0, .int .i64 0, .slice none 0 0, .int .i64 0, .bool false] 24)).alloc (.cells #[.int .i64 0, .int .i64 0, .int .i64 0, .int .i64 0, .slice none 0 0, .int .i64 0, .bool false] 24)).drew (w.heap.size + 1) #[I64 x0, I64 x1, I64 x2, I64 x3, .slice none 0 0, I64 0, .bool false]) w.heap.size 24 #[.int .i64 0, .int .i64 0, .int .i64 0, .int .i64 0, .slice none 0 0, .int .i64 0, .bool false] :=
      Blk.setRow_far (((Blk.new w _ _).alloc _).drew) (by omega) _
    have hB1 : Blk (World.setRow ((w.alloc (.cells #[.int .i64 0, .int .i64 0, .int .i64 0, .int .i64 0, .slice none 0 0, .int .i64 0, .bool false] 24)).alloc (.cells #[.int .i64 0, .int .i64 0, .int .i64 0, .int .i64 0, .slice none 0 0, .int .i64 0, .bool false] 24)).drew (w.heap.size + 1) #[I64 x0, I64 x1, I64 x2, I64 x3, .slice none 0 0, I64 0, .bool false]) (w.heap.size + 1) 24 #[I64 x0, I64 x1, I64 x2, I64 x3, .slice none 0 0, I64 0, .bool false] :=
      Blk.setRow ((Blk.new' (g := w.heap.size + 1) (w.alloc _) (by simp) rfl).drew) _
    have HB0 := Lib.hid hB0
    have HB1 := Lib.hid hB1
    clear hB0 hB1 HQ HB
    have HO := Lib.hid (Own.none_ (World.setRow ((w.alloc (.cells #[.int .i64 0, .int .i64 0, .int .i64 0, .int .i64 0, .slice none 0 0, .int .i64 0, .bool false] 24)).alloc (.cells #[.int .i64 0, .int .i64 0, .int .i64 0, .int .i64 0, .slice none 0 0, .int .i64 0, .bool false] 24)).drew (w.heap.size + 1) #[I64 x0, I64 x1, I64 x2, I64 x3, .slice none 0 0, I64 0, .bool false]) (w.heap.size + 1) 5 1 none)
    go_wp2_with ((with_reducible show wpList _ _ _ (Oper.mk _ (Op.load 24 (Operand.tmp 4)) _ _ _ _ :: _) _ _); refine wpList_load_row rfl 24 (.tmp 4) rfl (w.heap.size + 1) rfl 24 #[I64 x0, I64 x1, I64 x2, I64 x3, .slice none 0 0, I64 0, .bool false] (0, 0) _ (HB1.out) Try.underlying24 rfl (by kernel_rfl) ?_)
    go_at_call 15
    refine (HCk.out _ _ _ _ _ _ _ _ _ _).mono ?_
    rintro e w6 ⟨rfl, hb6⟩
    have HB06 := Lib.hid (HB0.out.after hb6)
    have HB16 := Lib.hid (HB1.out.after hb6)
    have HO6 := Lib.hid (HO.out.below hb6)
    have HW6 := Lib.hid (bgo HW.out hb6)
    clear HCk HB0 HB1 HO HW hb6
    generalize hzz : Apd.chk _ _ _ _ _ _ _ = z at *
    have HZ := Lib.hid hzz
    clear hzz
    by_cases hz : z = 0
    · subst hz
      go_wp2_with (first
        | ((with_reducible show wpList _ _ _ (Oper.mk _ (Op.load 24 (Operand.tmp 4)) _ _ _ _ :: _) _ _); refine wpList_load_row rfl 24 (.tmp 4) rfl (w.heap.size + 1) rfl 24 #[I64 x0, I64 x1, I64 x2, I64 x3, .slice none 0 0, I64 0, .bool false] (0, 0) _ (HB16.out) Try.underlying24 rfl (by kernel_rfl) ?_)
        | ((with_reducible show wpList _ _ _ (Oper.mk _ (Op.store 24 (Operand.tmp 2) (Operand.tmp 61)) _ _ _ _ :: _) _ _); refine wpList_store_row rfl 24 (.tmp 2) (.tmp 61) rfl w.heap.size #[I64 x0, I64 x1, I64 x2, I64 x3, .slice none 0 0, I64 0, .bool false] rfl rfl 24 _ HB06.out (by kernel_rfl) rfl (cmd_one _ _ _ _ _ _ _ _ _) ?_))
      refine bodyPost_ret (results_row_tmp rfl _ _ w.heap.size 24 _ (0, 0) _ rfl (by exact HB06.out.setRow _) Try.underlying24 rfl (by kernel_rfl)) rfl ⟨by exact Below.setRow HW6.out (Nat.le_refl _) _, .inr ?_⟩
      rw [HEE.out]
      refine ⟨rfl, none, 0, rfl, ?_⟩
      exact (HO6.out.setRow_ne HB06.out (by decide) _).mono (by omega)
    · have hz2 : (z != 0) = true := bne_iff_ne.2 hz
      go_wp2_with ((with_reducible show wpList _ _ _ (Oper.mk _ (Op.store 24 (Operand.tmp 2) (Operand.tmp 59)) _ _ _ _ :: _) _ _); refine wpList_store_row rfl 24 (.tmp 2) (.tmp 59) rfl w.heap.size #[I64 0, I64 0, I64 0, I64 0, .slice none 0 0, I64 0, .bool false] rfl rfl 24 _ HB06.out (by kernel_rfl) rfl (cmd_one _ _ _ _ _ _ _ _ _) ?_)
      refine bodyPost_ret (results_row_tmp rfl _ _ w.heap.size 24 _ (0, 0) _ rfl (by exact HB06.out.setRow _) Try.underlying24 rfl (by kernel_rfl)) rfl ⟨by exact Below.setRow HW6.out (Nat.le_refl _) _, .inl ?_⟩
      rw [HEE.out]
      exact ⟨hz, rfl⟩
  have hm1 : 1 ≤ m := by omega
  have c4 : ¬ c = 4 := by omega
  have m1 : (4 : Int) < 4 + (m : Int) := by omega
  have hx4 := hx4 (by omega)
  rw [hx4] at hq4
  have hqq := Lib.hid ((hq4 (by omega)).out)
  clear hq4 hx4 h4b
  by_cases hext : 2 ≤ m ∧ d.getD 0 0 = 0
  · obtain ⟨hm2, hd0⟩ := hext
    have m2 : (5 : Int) < 4 + (m : Int) := by omega
    rw [hd0] at hqq
    have HC := Lib.hid (fun (u : World) (A' : Option Addr) (c' : Nat) (hb : Byt u u.heap.size A' m c' d) => ref04_extended x0 x1 x2 x3 A' m c' d u hb (by omega) hm2 hd0)
    clear hd0
    unfold cmdV ShRes at HC
    go_enter Try.func26, Try.ntmps26
    go_upto_region 3 with fail
    refine wp_region_noPanic ?_
    refine wp_region_held_drew (S := fun u => u.cell? ⟨bb, o, none⟩ = some (.int .u8 x0) ∧ u.cell? ⟨bb, o + 1, none⟩ = some (.int .u8 x1) ∧ u.cell? ⟨bb, o + 2, none⟩ = some (.int .u8 x2) ∧ u.cell? ⟨bb, o + 3, none⟩ = some (.int .u8 x3)) (by kernel_rfl) (by exact HQ.out _ (HB.out _).drew) (fun hHeld => ?_)
    refine wpAnyH_take2 (i := 0) (by simp only [List.getElem?_toArray, List.getElem?_cons_succ, List.getElem?_cons_zero]; first | done | exact rfl) ⟨?_, by kernel_rfl, by kernel_rfl, by kernel_rfl, fun _ _ _ h => h, Or.inl ⟨by rfl, ?_⟩, by assumption, ?_⟩
    rotate_left 1
    · (intro w9 hSw; (try dsimp only at hSw); go_simp; try (with_reducible rfl))
    try simp only [Act.put, List.setIfInBounds_toArray, List.set_cons_zero, List.set_cons_succ]
    refine wpAnyH_take2 (i := 1) (by simp only [List.getElem?_toArray, List.getElem?_cons_succ, List.getElem?_cons_zero]; first | done | exact rfl) ⟨?_, by kernel_rfl, by kernel_rfl, by kernel_rfl, fun _ _ _ h => h, Or.inl ⟨by rfl, ?_⟩, by assumption, ?_⟩
    rotate_left 1
    · (intro w9 hSw; (try dsimp only at hSw); go_simp; try (with_reducible rfl))
    try simp only [Act.put, List.setIfInBounds_toArray, List.set_cons_zero, List.set_cons_succ]
    refine wpAnyH_take2 (i := 2) (by simp only [List.getElem?_toArray, List.getElem?_cons_succ, List.getElem?_cons_zero]; first | done | exact rfl) ⟨?_, by kernel_rfl, by kernel_rfl, by kernel_rfl, fun _ _ _ h => h, Or.inl ⟨by rfl, ?_⟩, by assumption, ?_⟩
    rotate_left 1
    · (intro w9 hSw; (try dsimp only at hSw); go_simp; try (with_reducible rfl))
    try simp only [Act.put, List.setIfInBounds_toArray, List.set_cons_zero, List.set_cons_succ]
    refine wpAnyH_take2 (i := 3) (by simp only [List.getElem?_toArray, List.getElem?_cons_succ, List.getElem?_cons_zero]; first | done | exact rfl) ⟨?_, by kernel_rfl, by kernel_rfl, by kernel_rfl, fun _ _ _ h => h, Or.inl ⟨by rfl, ?_⟩, by assumption, ?_⟩
    rotate_left 1
    · (intro w9 hSw; (try dsimp only at hSw); go_simp; try (with_reducible rfl))
    try simp only [Act.put, List.setIfInBounds_toArray, List.set_cons_zero, List.set_cons_succ]
    refine wpAnyH_take2 (i := 4) (by simp only [List.getElem?_toArray, List.getElem?_cons_succ, List.getElem?_cons_zero]; first | done | exact rfl) ⟨?_, by kernel_rfl, by kernel_rfl, by kernel_rfl, fun _ _ _ h => h, Or.inl ⟨by rfl, ?_⟩, by assumption, ?_⟩
    rotate_left 1
    · (intro w9 hSw; (try dsimp only at hSw); go_simp; try (with_reducible rfl))
    try simp only [Act.put, List.setIfInBounds_toArray, List.set_cons_zero, List.set_cons_succ]
    refine wpAnyH_take2 (i := 5) (by simp only [List.getElem?_toArray, List.getElem?_cons_succ, List.getElem?_cons_zero]; first | done | exact rfl) ⟨?_, by kernel_rfl, by kernel_rfl, by kernel_rfl, fun _ _ _ h => h, Or.inl ⟨by rfl, ?_⟩, by assumption, ?_⟩
    rotate_left 1
    · (intro w9 hSw; (try dsimp only at hSw); go_simp; try (with_reducible rfl))
    try simp only [Act.put, List.setIfInBounds_toArray, List.set_cons_zero, List.set_cons_succ]
    refine wpAnyH_take2 (i := 6) (by simp only [List.getElem?_toArray, List.getElem?_cons_succ, List.getElem?_cons_zero]; first | done | exact rfl) ⟨?_, by kernel_rfl, by kernel_rfl, by kernel_rfl, fun _ _ _ h => h, Or.inl ⟨by rfl, ?_⟩, by assumption, ?_⟩
    rotate_left 1
    · (intro w9 hSw; (try dsimp only at hSw); go_simp; try (with_reducible rfl))
    try simp only [Act.put, List.setIfInBounds_toArray, List.set_cons_zero, List.set_cons_succ]
    refine wpAnyH_take2 (i := 7) (by simp only [List.getElem?_toArray, List.getElem?_cons_succ, List.getElem?_cons_zero]; first | done | exact rfl) ⟨?_, by kernel_rfl, by kernel_rfl, by kernel_rfl, fun _ _ _ h => h, Or.inl ⟨by rfl, ?_⟩, by assumption, ?_⟩
    rotate_left 1
    · (intro w9 hSw; (try dsimp only at hSw); go_simp; try (with_reducible rfl))
    try simp only [Act.put, List.setIfInBounds_toArray, List.set_cons_zero, List.set_cons_succ]
    refine wpAnyH_take2 (i := 8) (by simp only [List.getElem?_toArray, List.getElem?_cons_succ, List.getElem?_cons_zero]; first | done | exact rfl) ⟨?_, by kernel_rfl, by kernel_rfl, by kernel_rfl, fun _ _ _ h => h, Or.inl ⟨by rfl, ?_⟩, by assumption, ?_⟩
    rotate_left 1
    · (intro w9 hSw; (try dsimp only at hSw); go_simp; try (with_reducible rfl))
    try simp only [Act.put, List.setIfInBounds_toArray, List.set_cons_zero, List.set_cons_succ]
    refine wpAnyH_take2 (i := 9) (by simp only [List.getElem?_toArray, List.getElem?_cons_succ, List.getElem?_cons_zero]; first | done | exact rfl) ⟨?_, by kernel_rfl, by kernel_rfl, by kernel_rfl, fun _ _ _ h => h, Or.inl ⟨by rfl, ?_⟩, by assumption, ?_⟩
    rotate_left 1
    · (intro w9 hSw; (try dsimp only at hSw); go_simp; try (with_reducible rfl))
    try simp only [Act.put, List.setIfInBounds_toArray, List.set_cons_zero, List.set_cons_succ]
    refine wpAnyH_take2 (i := 10) (by simp only [List.getElem?_toArray, List.getElem?_cons_succ, List.getElem?_cons_zero]; first | done | exact rfl) ⟨?_, by kernel_rfl, by kernel_rfl, by kernel_rfl, fun _ _ _ h => h, Or.inl ⟨by rfl, ?_⟩, by assumption, ?_⟩
    rotate_left 1
    · (intro w9 hSw; (try dsimp only at hSw); go_simp; try (with_reducible rfl))
    try simp only [Act.put, List.setIfInBounds_toArray, List.set_cons_zero, List.set_cons_succ]
    refine wpAnyH_take2 (i := 11) (by simp only [List.getElem?_toArray, List.getElem?_cons_succ, List.getElem?_cons_zero]; first | done | exact rfl) ⟨?_, by kernel_rfl, by kernel_rfl, by kernel_rfl, fun _ _ _ h => h, Or.inl ⟨by rfl, ?_⟩, by assumption, ?_⟩
    rotate_left 1
    · (intro w9 hSw; (try dsimp only at hSw); go_simp; try (with_reducible rfl))
    try simp only [Act.put, List.setIfInBounds_toArray, List.set_cons_zero, List.set_cons_succ]
    refine wpAnyH_take2 (i := 12) (by simp only [List.getElem?_toArray, List.getElem?_cons_succ, List.getElem?_cons_zero]; first | done | exact rfl) ⟨?_, by kernel_rfl, by kernel_rfl, by kernel_rfl, fun _ _ _ h => h, Or.inl ⟨by rfl, ?_⟩, by assumption, ?_⟩
    rotate_left 1
    · (intro w9 hSw; (try dsimp only at hSw); go_simp; try (with_reducible rfl))
    try simp only [Act.put, List.setIfInBounds_toArray, List.set_cons_zero, List.set_cons_succ]
    refine wpAnyH_take2 (i := 13) (by simp only [List.getElem?_toArray, List.getElem?_cons_succ, List.getElem?_cons_zero]; first | done | exact rfl) ⟨?_, by kernel_rfl, by kernel_rfl, by kernel_rfl, fun _ _ _ h => h, Or.inl ⟨by rfl, ?_⟩, by assumption, ?_⟩
    rotate_left 1
    · (intro w9 hSw; (try dsimp only at hSw); go_simp; try (with_reducible rfl))
    try simp only [Act.put, List.setIfInBounds_toArray, List.set_cons_zero, List.set_cons_succ]
    refine wpAnyH_take2 (i := 14) (by simp only [List.getElem?_toArray, List.getElem?_cons_succ, List.getElem?_cons_zero]; first | done | exact rfl) ⟨?_, by kernel_rfl, by kernel_rfl, by kernel_rfl, fun _ _ _ h => h, Or.inl ⟨by rfl, ?_⟩, by assumption, ?_⟩
    rotate_left 1
    · (intro w9 hSw; (try dsimp only at hSw); go_simp; try (with_reducible rfl))
    try simp only [Act.put, List.setIfInBounds_toArray, List.set_cons_zero, List.set_cons_succ]
    refine wpAnyH_take2 (i := 15) (by simp only [List.getElem?_toArray, List.getElem?_cons_succ, List.getElem?_cons_zero]; first | done | exact rfl) ⟨?_, by kernel_rfl, by kernel_rfl, by kernel_rfl, fun _ _ _ h => h, Or.inl ⟨by rfl, ?_⟩, by assumption, ?_⟩
    rotate_left 1
    · (intro w9 hSw; (try dsimp only at hSw); go_simp; try (with_reducible rfl))
    try simp only [Act.put, List.setIfInBounds_toArray, List.set_cons_zero, List.set_cons_succ]
    refine wpAnyH_take2 (i := 16) (by simp only [List.getElem?_toArray, List.getElem?_cons_succ, List.getElem?_cons_zero]; first | done | exact rfl) ⟨?_, by kernel_rfl, by kernel_rfl, by kernel_rfl, fun _ _ _ h => h, Or.inl ⟨by rfl, ?_⟩, by assumption, ?_⟩
    rotate_left 1
    · (intro w9 hSw; (try dsimp only at hSw); go_simp; try (with_reducible rfl))
    try simp only [Act.put, List.setIfInBounds_toArray, List.set_cons_zero, List.set_cons_succ]
    refine wpAnyH_ready (rs := [17]) (by kernel_rfl) (by simp) ?_
    refine AllReadyH.cons2 (by simp only [List.getElem?_toArray, List.getElem?_cons_succ, List.getElem?_cons_zero]; first | done | exact rfl) (fun K hK => ?_)
    rw [if_pos (by rfl)]
    go_simp
    refine hK.out _ _ (by exact HQ.out _ (((HB.out _).drew).alloc (by simp) _)) (fun hHeld => ?_)
    clear hK K
    try simp only [Act.put, List.setIfInBounds_toArray, List.set_cons_zero, List.set_cons_succ]
    refine wpAnyH_ready (rs := [18]) (by kernel_rfl) (by simp) ?_
    refine AllReadyH.cons2 (by simp only [List.getElem?_toArray, List.getElem?_cons_succ, List.getElem?_cons_zero]; first | done | exact rfl) (fun K hK => ?_)
    refine step_store_row rfl 24 (.tmp 4) (.tmp 26) rfl (w.heap.size + 1) #[I64 x0, I64 x1, I64 x2, I64 x3, .slice none 0 0, I64 0, .bool false] rfl rfl 24 #[.int .i64 0, .int .i64 0, .int .i64 0, .int .i64 0, .slice none 0 0, .int .i64 0, .bool false] (by exact Blk.new' (g := w.heap.size + 1) _ (by simp) rfl) (by kernel_rfl) rfl (cmd_one _ _ _ _ _ _ _ _ _) ?_
    refine hK.out _ _ (by exact HQ.out _ (Below.setRow (((HB.out _).drew).alloc (by simp) _) (by omega) _)) (fun hHeld => ?_)
    clear hK K
    try simp only [Act.put, List.setIfInBounds_toArray, List.set_cons_zero, List.set_cons_succ]
    refine wpAnyH_done (by kernel_rfl) ?_ _
    refine NoPanic.normal ?_
    clear v0 v1 v2 v3 hHeld p0 p1 p2 p3 c0 c1 c2 c3
    have HW := Lib.hid (Below.setRow (g := w.heap.size + 1) (((HB.out (.cells #[.int .i64 0, .int .i64 0, .int .i64 0, .int .i64 0, .slice none 0 0, .int .i64 0, .bool false] 24)).alloc (by simp) (.cells #[.int .i64 0, .int .i64 0, .int .i64 0, .int .i64 0, .slice none 0 0, .int .i64 0, .bool false] 24)).drew) (by omega) #[I64 x0, I64 x1, I64 x2, I64 x3, .slice none 0 0, I64 0, .bool false])
    have hB0 : Blk (World.setRow ((w.alloc (.cells #[.int .i64 0, .int .i64 0, .int .i64 0, .int .i64 0, .slice none 0 0, .int .i64 0, .bool false] 24)).alloc (.cells #[.int .i64 0, .int .i64 0, .int .i64 0, .int .i64 0, .slice none 0 0, .int .i64 0, .bool false] 24)).drew (w.heap.size + 1) #[I64 x0, I64 x1, I64 x2, I64 x3, .slice none 0 0, I64 0, .bool false]) w.heap.size 24 #[.int .i64 0, .int .i64 0, .int .i64 0, .int .i64 0, .slice none 0 0, .int .i64 0, .bool false] :=
      Blk.setRow_far (((Blk.new w _ _).alloc _).drew) (by omega) _
    have hB1 : Blk (World.setRow ((w.alloc (.cells #[.int .i64 0, .int .i64 0, .int .i64 0, .int .i64 0, .slice none 0 0, .int .i64 0, .bool false] 24)).alloc (.cells #[.int .i64 0, .int .i64 0, .int .i64 0, .int .i64 0, .slice none 0 0, .int .i64 0, .bool false] 24)).drew (w.heap.size + 1) #[I64 x0, I64 x1, I64 x2, I64 x3, .slice none 0 0, I64 0, .bool false]) (w.heap.size + 1) 24 #[I64 x0, I64 x1, I64 x2, I64 x3, .slice none 0 0, I64 0, .bool false] :=
      Blk.setRow ((Blk.new' (g := w.heap.size + 1) (w.alloc _) (by simp) rfl).drew) _
    have HB0 := Lib.hid hB0
    have HB1 := Lib.hid hB1
    clear hB0 hB1 HQ HB
    clear HP
    have q4 := hqq.out _ HW.out
    go_upto_region 6 with fail
    clear q4
    refine wp_region_noPanic ?_
    refine wp_region_held_drew (S := fun _ => True) (by kernel_rfl) (trivial) (fun hHeld => ?_)
    refine wpAnyH_take2 (i := 1) (by simp only [List.getElem?_toArray, List.getElem?_cons_succ, List.getElem?_cons_zero]; first | done | exact rfl) ⟨?_, by kernel_rfl, by kernel_rfl, by kernel_rfl, fun _ _ _ h => h, Or.inl ⟨by rfl, ?_⟩, by assumption, ?_⟩
    rotate_left 1
    · (intro w9 hSw; (try dsimp only at hSw); go_simp; try (with_reducible rfl))
    try simp only [Act.put, List.setIfInBounds_toArray, List.set_cons_zero, List.set_cons_succ]
    refine wpAnyH_take2 (i := 2) (by simp only [List.getElem?_toArray, List.getElem?_cons_succ, List.getElem?_cons_zero]; first | done | exact rfl) ⟨?_, by kernel_rfl, by kernel_rfl, by kernel_rfl, fun _ _ _ h => h, Or.inl ⟨by rfl, ?_⟩, by assumption, ?_⟩
    rotate_left 1
    · (intro w9 hSw; (try dsimp only at hSw); go_simp; try (with_reducible rfl))
    try simp only [Act.put, List.setIfInBounds_toArray, List.set_cons_zero, List.set_cons_succ]
    refine wpAnyH_ready (rs := [0]) (by kernel_rfl) (by simp) ?_
    refine AllReadyH.cons2 (by simp only [List.getElem?_toArray, List.getElem?_cons_succ, List.getElem?_cons_zero]; first | done | exact rfl) (fun K hK => ?_)
    refine step_load_row rfl 24 (.tmp 4) rfl (w.heap.size + 1) rfl 24 #[I64 x0, I64 x1, I64 x2, I64 x3, .slice none 0 0, I64 0, .bool false] (0, 0) _ (by exact HB1.out.drew) Try.underlying24 rfl (by kernel_rfl) ?_
    refine hK.out _ _ (trivial) (fun hHeld => ?_)
    clear hK K
    try simp only [Act.put, List.setIfInBounds_toArray, List.set_cons_zero, List.set_cons_succ]
    refine wpAnyH_ready (rs := [3]) (by kernel_rfl) (by simp) ?_
    refine AllReadyH.cons2 (by simp only [List.getElem?_toArray, List.getElem?_cons_succ, List.getElem?_cons_zero]; first | done | exact rfl) (fun K hK => ?_)
    rw [if_pos (by rfl)]
    go_simp
    go_at_call 47
    refine (HC.out _ _ _ (by exact (HD.out.below HW.out.drew).more HW.out.drew.size)).mono ?_
    rintro e w5 ⟨hb5, hres⟩
    obtain ⟨r0, r1, r2, r3, A5, n5, c5, l5, g5, rfl, hprop⟩ : ∃ (r0 r1 r2 r3 : Int) (A5 : Option Addr) (n5 c5 : Nat) (l5 : Int) (g5 : Bool), e = .returned (.tuple #[.agg #[I64 r0, I64 r1, I64 r2, I64 r3, .slice A5 n5 c5, I64 l5, .bool g5], .int .i64 (Apd.bdE d)]) ∧ (Apd.bdE d ≠ 0 ∨ (Apd.bdE d = 0 ∧ r0 = x0 ∧ r1 = x1 ∧ r2 = x2 ∧ r3 = x3 ∧ n5 = (Apd.bdD d).length ∧ l5 = (Apd.bdL d : Int) ∧ g5 = Apd.bdG d ∧ Own w5 w.heap.size 5 1 A5 (Apd.bdD d).length c5 (bcells (Apd.bdD d)))) := by
      rcases hres with ⟨h1, h2⟩ | ⟨h1, A5, c5, h2, h3⟩
      · exact ⟨0, 0, 0, 0, none, 0, 0, 0, false, h2, .inl h1⟩
      · exact ⟨x0, x1, x2, x3, A5, _, c5, _, _, by rw [h2, h1]; rfl, .inr ⟨h1, rfl, rfl, rfl, rfl, rfl, rfl, rfl, h3.mono HW.out.drew.size⟩⟩
    have HB05 := Lib.hid (HB0.out.drew.after hb5)
    have HB15 := Lib.hid (HB1.out.drew.after hb5)
    have HW5 := Lib.hid (bgo HW.out.drew hb5)
    have HPR := Lib.hid hprop
    clear hprop hres hb5 HB0 HB1 HW HC HD hqq
    go_wp2_with fail
    refine hK.out _ _ (trivial) (fun hHeld => ?_)
    clear hK K
    try simp only [Act.put, List.setIfInBounds_toArray, List.set_cons_zero, List.set_cons_succ]
    refine wpAnyH_take2 (i := 4) (by simp only [List.getElem?_toArray, List.getElem?_cons_succ, List.getElem?_cons_zero]; first | done | exact rfl) ⟨?_, by kernel_rfl, by kernel_rfl, by kernel_rfl, fun _ _ _ h => h, Or.inl ⟨by rfl, ?_⟩, by assumption, ?_⟩
    rotate_left 1
    · (intro w9 hSw; (try dsimp only at hSw); go_simp; try (with_reducible rfl))
    try simp only [Act.put, List.setIfInBounds_toArray, List.set_cons_zero, List.set_cons_succ]
    refine wpAnyH_take2 (i := 5) (by simp only [List.getElem?_toArray, List.getElem?_cons_succ, List.getElem?_cons_zero]; first | done | exact rfl) ⟨?_, by kernel_rfl, by kernel_rfl, by kernel_rfl, fun _ _ _ h => h, Or.inl ⟨by rfl, ?_⟩, by assumption, ?_⟩
    rotate_left 1
    · (intro w9 hSw; (try dsimp only at hSw); go_simp; try (with_reducible rfl))
    try simp only [Act.put, List.setIfInBounds_toArray, List.set_cons_zero, List.set_cons_succ]
    refine wpAnyH_take2 (i := 6) (by simp only [List.getElem?_toArray, List.getElem?_cons_succ, List.getElem?_cons_zero]; first | done | exact rfl) ⟨?_, by kernel_rfl, by kernel_rfl, by kernel_rfl, fun _ _ _ h => h, Or.inl ⟨by rfl, ?_⟩, by assumption, ?_⟩
    rotate_left 1
    · (intro w9 hSw; (try dsimp only at hSw); go_simp; try (with_reducible rfl))
    try simp only [Act.put, List.setIfInBounds_toArray, List.set_cons_zero, List.set_cons_succ]
    refine wpAnyH_ready (rs := [7]) (by kernel_rfl) (by simp) ?_
    refine AllReadyH.cons2 (by simp only [List.getElem?_toArray, List.getElem?_cons_succ, List.getElem?_cons_zero]; first | done | exact rfl) (fun K hK => ?_)
    refine step_store_row rfl 24 (.tmp 4) (.tmp 41) rfl (w.heap.size + 1) #[I64 r0, I64 r1, I64 r2, I64 r3, .slice A5 n5 c5, I64 l5, .bool g5] rfl rfl 24 #[I64 x0, I64 x1, I64 x2, I64 x3, .slice none 0 0, I64 0, .bool false] HB15.out (by kernel_rfl) rfl (cmd_one _ _ _ _ _ _ _ _ _) ?_
    refine hK.out _ _ (trivial) (fun hHeld => ?_)
    clear hK K
    try simp only [Act.put, List.setIfInBounds_toArray, List.set_cons_zero, List.set_cons_succ]
    refine wpAnyH_take2 (i := 8) (by simp only [List.getElem?_toArray, List.getElem?_cons_succ, List.getElem?_cons_zero]; first | done | exact rfl) ⟨?_, by kernel_rfl, by kernel_rfl, by kernel_rfl, fun _ _ _ h => h, Or.inl ⟨by rfl, ?_⟩, by assumption, ?_⟩
    rotate_left 1
    · (intro w9 hSw; (try dsimp only at hSw); go_simp; try (with_reducible rfl))
    try simp only [Act.put, List.setIfInBounds_toArray, List.set_cons_zero, List.set_cons_succ]
    refine wpAnyH_done (by kernel_rfl) ?_ _
    refine NoPanic.normal ?_
    have HB0 := Lib.hid (HB05.out.setRow_far (g' := w.heap.size + 1) (by omega) #[I64 r0, I64 r1, I64 r2, I64 r3, .slice A5 n5 c5, I64 l5, .bool g5])
    have HB1 := Lib.hid (HB15.out.setRow #[I64 r0, I64 r1, I64 r2, I64 r3, .slice A5 n5 c5, I64 l5, .bool g5])
    have HW := Lib.hid (Below.setRow HW5.out (Nat.le_succ _) #[I64 r0, I64 r1, I64 r2, I64 r3, .slice A5 n5 c5, I64 l5, .bool g5])
    by_cases her : Apd.bdE d = 0
    · have hee : Apd.dcE b = _ := HE.out.trans (if_neg (fun e => e her))
      have HEE := Lib.hid hee
      obtain ⟨-, rfl, rfl, rfl, rfl, rfl, rfl, rfl, ho⟩ := HPR.out.resolve_left (fun e => e her)
      have HO := Lib.hid (ho.setRow_ne HB15.out (by decide) #[I64 r0, I64 r1, I64 r2, I64 r3, .slice A5 (Apd.bdD d).length c5, I64 (Apd.bdL d : Int), .bool (Apd.bdG d)])
      have her2 : (Apd.bdE d == 0) = true := by rw [her]; rfl
      clear hee HE HPR HB05 HB15 HW5 ho
      go_wp2_with ((with_reducible show wpList _ _ _ (Oper.mk _ (Op.load 24 (Operand.tmp 4)) _ _ _ _ :: _) _ _); refine wpList_load_row rfl 24 (.tmp 4) rfl (w.heap.size + 1) rfl 24 #[I64 r0, I64 r1, I64 r2, I64 r3, .slice A5 (Apd.bdD d).length c5, I64 (Apd.bdL d : Int), .bool (Apd.bdG d)] (0, 0) _ (HB1.out) Try.underlying24 rfl (by kernel_rfl) ?_)
      go_at_call 15
      refine (HCk.out _ _ _ _ _ _ _ _ _ _).mono ?_
      rintro e w6 ⟨rfl, hb6⟩
      have HB06 := Lib.hid (HB0.out.after hb6)
      have HB16 := Lib.hid (HB1.out.after hb6)
      have HO6 := Lib.hid (HO.out.below hb6)
      have HW6 := Lib.hid (bgo HW.out hb6)
      clear HCk HB0 HB1 HO HW hb6
      generalize hzz : Apd.chk _ _ _ _ _ _ _ = z at *
      have HZ := Lib.hid hzz
      clear hzz
      by_cases hz : z = 0
      · subst hz
        go_wp2_with (first
          | ((with_reducible show wpList _ _ _ (Oper.mk _ (Op.load 24 (Operand.tmp 4)) _ _ _ _ :: _) _ _); refine wpList_load_row rfl 24 (.tmp 4) rfl (w.heap.size + 1) rfl 24 #[I64 r0, I64 r1, I64 r2, I64 r3, .slice A5 (Apd.bdD d).length c5, I64 (Apd.bdL d : Int), .bool (Apd.bdG d)] (0, 0) _ (HB16.out) Try.underlying24 rfl (by kernel_rfl) ?_)
          | ((with_reducible show wpList _ _ _ (Oper.mk _ (Op.store 24 (Operand.tmp 2) (Operand.tmp 61)) _ _ _ _ :: _) _ _); refine wpList_store_row rfl 24 (.tmp 2) (.tmp 61) rfl w.heap.size #[I64 r0, I64 r1, I64 r2, I64 r3, .slice A5 (Apd.bdD d).length c5, I64 (Apd.bdL d : Int), .bool (Apd.bdG d)] rfl rfl 24 _ HB06.out (by kernel_rfl) rfl (cmd_one _ _ _ _ _ _ _ _ _) ?_))
        refine bodyPost_ret (results_row_tmp rfl _ _ w.heap.size 24 _ (0, 0) _ rfl (by exact HB06.out.setRow _) Try.underlying24 rfl (by kernel_rfl)) rfl ⟨by exact Below.setRow HW6.out (Nat.le_refl _) _, .inr ?_⟩
        rw [HEE.out]
        refine ⟨rfl, A5, c5, rfl, ?_⟩
        exact (HO6.out.setRow_ne HB06.out (by decide) _).mono (by omega)
      · have hz2 : (z != 0) = true := bne_iff_ne.2 hz
        go_wp2_with ((with_reducible show wpList _ _ _ (Oper.mk _ (Op.store 24 (Operand.tmp 2) (Operand.tmp 59)) _ _ _ _ :: _) _ _); refine wpList_store_row rfl 24 (.tmp 2) (.tmp 59) rfl w.heap.size #[I64 0, I64 0, I64 0, I64 0, .slice none 0 0, I64 0, .bool false] rfl rfl 24 _ HB06.out (by kernel_rfl) rfl (cmd_one _ _ _ _ _ _ _ _ _) ?_)
        refine bodyPost_ret (results_row_tmp rfl _ _ w.heap.size 24 _ (0, 0) _ rfl (by exact HB06.out.setRow _) Try.underlying24 rfl (by kernel_rfl)) rfl ⟨by exact Below.setRow HW6.out (Nat.le_refl _) _, .inl ?_⟩
        rw [HEE.out]
        exact ⟨hz, rfl⟩
    · have hee : Apd.dcE b = Apd.bdE d := HE.out.trans (if_pos her)
      have HEE := Lib.hid hee
      have her2 : (Apd.bdE d != 0) = true := bne_iff_ne.2 her
      have her3 : (Apd.bdE d == 0) = false := beq_eq_false_iff_ne.2 her
      clear hee HE HPR HB05 HB15 HW5
      generalize Apd.bdE d = er at *
      go_wp2_with ((with_reducible show wpList _ _ _ (Oper.mk _ (Op.store 24 (Operand.tmp 2) (Operand.tmp 59)) _ _ _ _ :: _) _ _); refine wpList_store_row rfl 24 (.tmp 2) (.tmp 59) rfl w.heap.size #[I64 0, I64 0, I64 0, I64 0, .slice none 0 0, I64 0, .bool false] rfl rfl 24 _ HB0.out (by kernel_rfl) rfl (cmd_one _ _ _ _ _ _ _ _ _) ?_)
      refine bodyPost_ret (results_row_tmp rfl _ _ w.heap.size 24 _ (0, 0) _ rfl (by exact HB0.out.setRow _) Try.underlying24 rfl (by kernel_rfl)) rfl ⟨by exact Below.setRow HW.out (Nat.le_refl _) _, .inl ?_⟩
      rw [HEE.out]
      exact ⟨her, rfl⟩
  · have hsh : m = 1 ∨ d.getD 0 0 ≠ 0 := by
      by_cases h1 : m = 1
      · exact .inl h1
      · exact .inr (fun e => hext ⟨by omega, e⟩)
    have HC := Lib.hid (fun (u : World) (A' : Option Addr) (c' : Nat) (hb : Byt u u.heap.size A' m c' d) => ref04_short x0 x1 x2 x3 A' m c' d u hb (by omega) hm1 hsh)
    unfold cmdV ShRes at HC
    clear hext
    by_cases h1 : m = 1
    · have m2 : ¬ (5 : Int) < 4 + (m : Int) := by omega
      clear hsh h1
      go_enter Try.func26, Try.ntmps26
      go_upto_region 3 with fail
      refine wp_region_noPanic ?_
      refine wp_region_held_drew (S := fun u => u.cell? ⟨bb, o, none⟩ = some (.int .u8 x0) ∧ u.cell? ⟨bb, o + 1, none⟩ = some (.int .u8 x1) ∧ u.cell? ⟨bb, o + 2, none⟩ = some (.int .u8 x2) ∧ u.cell? ⟨bb, o + 3, none⟩ = some (.int .u8 x3)) (by kernel_rfl) (by exact HQ.out _ (HB.out _).drew) (fun hHeld => ?_)
      refine wpAnyH_take2 (i := 0) (by simp only [List.getElem?_toArray, List.getElem?_cons_succ, List.getElem?_cons_zero]; first | done | exact rfl) ⟨?_, by kernel_rfl, by kernel_rfl, by kernel_rfl, fun _ _ _ h => h, Or.inl ⟨by rfl, ?_⟩, by assumption, ?_⟩
      rotate_left 1
      · (intro w9 hSw; (try dsimp only at hSw); go_simp; try (with_reducible rfl))
      try simp only [Act.put, List.setIfInBounds_toArray, List.set_cons_zero, List.set_cons_succ]
      refine wpAnyH_take2 (i := 1) (by simp only [List.getElem?_toArray, List.getElem?_cons_succ, List.getElem?_cons_zero]; first | done | exact rfl) ⟨?_, by kernel_rfl, by kernel_rfl, by kernel_rfl, fun _ _ _ h => h, Or.inl ⟨by rfl, ?_⟩, by assumption, ?_⟩
      rotate_left 1
      · (intro w9 hSw; (try dsimp only at hSw); go_simp; try (with_reducible rfl))
      try simp only [Act.put, List.setIfInBounds_toArray, List.set_cons_zero, List.set_cons_succ]
      refine wpAnyH_take2 (i := 2) (by simp only [List.getElem?_toArray, List.getElem?_cons_succ, List.getElem?_cons_zero]; first | done | exact rfl) ⟨?_, by kernel_rfl, by kernel_rfl, by kernel_rfl, fun _ _ _ h => h, Or.inl ⟨by rfl, ?_⟩, by assumption, ?_⟩
      rotate_left 1
      · (intro w9 hSw; (try dsimp only at hSw); go_simp; try (with_reducible rfl))
      try simp only [Act.put, List.setIfInBounds_toArray, List.set_cons_zero, List.set_cons_succ]
      refine wpAnyH_take2 (i := 3) (by simp only [List.getElem?_toArray, List.getElem?_cons_succ, List.getElem?_cons_zero]; first | done | exact rfl) ⟨?_, by kernel_rfl, by kernel_rfl, by kernel_rfl, fun _ _ _ h => h, Or.inl ⟨by rfl, ?_⟩, by assumption, ?_⟩
      rotate_left 1
      · (intro w9 hSw; (try dsimp only at hSw); go_simp; try (with_reducible rfl))
      try simp only [Act.put, List.setIfInBounds_toArray, List.set_cons_zero, List.set_cons_succ]
      refine wpAnyH_take2 (i := 4) (by simp only [List.getElem?_toArray, List.getElem?_cons_succ, List.getElem?_cons_zero]; first | done | exact rfl) ⟨?_, by kernel_rfl, by kernel_rfl, by kernel_rfl, fun _ _ _ h => h, Or.inl ⟨by rfl, ?_⟩, by assumption, ?_⟩
      rotate_left 1
      · (intro w9 hSw; (try dsimp only at hSw); go_simp; try (with_reducible rfl))
      try simp only [Act.put, List.setIfInBounds_toArray, List.set_cons_zero, List.set_cons_succ]
      refine wpAnyH_take2 (i := 5) (by simp only [List.getElem?_toArray, List.getElem?_cons_succ, List.getElem?_cons_zero]; first | done | exact rfl) ⟨?_, by kernel_rfl, by kernel_rfl, by kernel_rfl, fun _ _ _ h => h, Or.inl ⟨by rfl, ?_⟩, by assumption, ?_⟩
      rotate_left 1
      · (intro w9 hSw; (try dsimp only at hSw); go_simp; try (with_reducible rfl))
      try simp only [Act.put, List.setIfInBounds_toArray, List.set_cons_zero, List.set_cons_succ]
      refine wpAnyH_take2 (i := 6) (by simp only [List.getElem?_toArray, List.getElem?_cons_succ, List.getElem?_cons_zero]; first | done | exact rfl) ⟨?_, by kernel_rfl, by kernel_rfl, by kernel_rfl, fun _ _ _ h => h, Or.inl ⟨by rfl, ?_⟩, by assumption, ?_⟩
      rotate_left 1
      · (intro w9 hSw; (try dsimp only at hSw); go_simp; try (with_reducible rfl))
      try simp only [Act.put, List.setIfInBounds_toArray, List.set_cons_zero, List.set_cons_succ]
      refine wpAnyH_take2 (i := 7) (by simp only [List.getElem?_toArray, List.getElem?_cons_succ, List.getElem?_cons_zero]; first | done | exact rfl) ⟨?_, by kernel_rfl, by kernel_rfl, by kernel_rfl, fun _ _ _ h => h, Or.inl ⟨by rfl, ?_⟩, by assumption, ?_⟩
      rotate_left 1
      · (intro w9 hSw; (try dsimp only at hSw); go_simp; try (with_reducible rfl))
      try simp only [Act.put, List.setIfInBounds_toArray, List.set_cons_zero, List.set_cons_succ]
      refine wpAnyH_take2 (i := 8) (by simp only [List.getElem?_toArray, List.getElem?_cons_succ, List.getElem?_cons_zero]; first | done | exact rfl) ⟨?_, by kernel_rfl, by kernel_rfl, by kernel_rfl, fun _ _ _ h => h, Or.inl ⟨by rfl, ?_⟩, by assumption, ?_⟩
      rotate_left 1
      · (intro w9 hSw; (try dsimp only at hSw); go_simp; try (with_reducible rfl))
      try simp only [Act.put, List.setIfInBounds_toArray, List.set_cons_zero, List.set_cons_succ]
      refine wpAnyH_take2 (i := 9) (by simp only [List.getElem?_toArray, List.getElem?_cons_succ, List.getElem?_cons_zero]; first | done | exact rfl) ⟨?_, by kernel_rfl, by kernel_rfl, by kernel_rfl, fun _ _ _ h => h, Or.inl ⟨by rfl, ?_⟩, by assumption, ?_⟩
      rotate_left 1
      · (intro w9 hSw; (try dsimp only at hSw); go_simp; try (with_reducible rfl))
      try simp only [Act.put, List.setIfInBounds_toArray, List.set_cons_zero, List.set_cons_succ]
      refine wpAnyH_take2 (i := 10) (by simp only [List.getElem?_toArray, List.getElem?_cons_succ, List.getElem?_cons_zero]; first | done | exact rfl) ⟨?_, by kernel_rfl, by kernel_rfl, by kernel_rfl, fun _ _ _ h => h, Or.inl ⟨by rfl, ?_⟩, by assumption, ?_⟩
      rotate_left 1
      · (intro w9 hSw; (try dsimp only at hSw); go_simp; try (with_reducible rfl))
      try simp only [Act.put, List.setIfInBounds_toArray, List.set_cons_zero, List.set_cons_succ]
      refine wpAnyH_take2 (i := 11) (by simp only [List.getElem?_toArray, List.getElem?_cons_succ, List.getElem?_cons_zero]; first | done | exact rfl) ⟨?_, by kernel_rfl, by kernel_rfl, by kernel_rfl, fun _ _ _ h => h, Or.inl ⟨by rfl, ?_⟩, by assumption, ?_⟩
      rotate_left 1
      · (intro w9 hSw; (try dsimp only at hSw); go_simp; try (with_reducible rfl))
      try simp only [Act.put, List.setIfInBounds_toArray, List.set_cons_zero, List.set_cons_succ]
      refine wpAnyH_take2 (i := 12) (by simp only [List.getElem?_toArray, List.getElem?_cons_succ, List.getElem?_cons_zero]; first | done | exact rfl) ⟨?_, by kernel_rfl, by kernel_rfl, by kernel_rfl, fun _ _ _ h => h, Or.inl ⟨by rfl, ?_⟩, by assumption, ?_⟩
      rotate_left 1
      · (intro w9 hSw; (try dsimp only at hSw); go_simp; try (with_reducible rfl))
      try simp only [Act.put, List.setIfInBounds_toArray, List.set_cons_zero, List.set_cons_succ]
      refine wpAnyH_take2 (i := 13) (by simp only [List.getElem?_toArray, List.getElem?_cons_succ, List.getElem?_cons_zero]; first | done | exact rfl) ⟨?_, by kernel_rfl, by kernel_rfl, by kernel_rfl, fun _ _ _ h => h, Or.inl ⟨by rfl, ?_⟩, by assumption, ?_⟩
      rotate_left 1
      · (intro w9 hSw; (try dsimp only at hSw); go_simp; try (with_reducible rfl))
      try simp only [Act.put, List.setIfInBounds_toArray, List.set_cons_zero, List.set_cons_succ]
      refine wpAnyH_take2 (i := 14) (by simp only [List.getElem?_toArray, List.getElem?_cons_succ, List.getElem?_cons_zero]; first | done | exact rfl) ⟨?_, by kernel_rfl, by kernel_rfl, by kernel_rfl, fun _ _ _ h => h, Or.inl ⟨by rfl, ?_⟩, by assumption, ?_⟩
      rotate_left 1
      · (intro w9 hSw; (try dsimp only at hSw); go_simp; try (with_reducible rfl))
      try simp only [Act.put, List.setIfInBounds_toArray, List.set_cons_zero, List.set_cons_succ]
      refine wpAnyH_take2 (i := 15) (by simp only [List.getElem?_toArray, List.getElem?_cons_succ, List.getElem?_cons_zero]; first | done | exact rfl) ⟨?_, by kernel_rfl, by kernel_rfl, by kernel_rfl, fun _ _ _ h => h, Or.inl ⟨by rfl, ?_⟩, by assumption, ?_⟩
      rotate_left 1
      · (intro w9 hSw; (try dsimp only at hSw); go_simp; try (with_reducible rfl))
      try simp only [Act.put, List.setIfInBounds_toArray, List.set_cons_zero, List.set_cons_succ]
      refine wpAnyH_take2 (i := 16) (by simp only [List.getElem?_toArray, List.getElem?_cons_succ, List.getElem?_cons_zero]; first | done | exact rfl) ⟨?_, by kernel_rfl, by kernel_rfl, by kernel_rfl, fun _ _ _ h => h, Or.inl ⟨by rfl, ?_⟩, by assumption, ?_⟩
      rotate_left 1
      · (intro w9 hSw; (try dsimp only at hSw); go_simp; try (with_reducible rfl))
      try simp only [Act.put, List.setIfInBounds_toArray, List.set_cons_zero, List.set_cons_succ]
      refine wpAnyH_ready (rs := [17]) (by kernel_rfl) (by simp) ?_
      refine AllReadyH.cons2 (by simp only [List.getElem?_toArray, List.getElem?_cons_succ, List.getElem?_cons_zero]; first | done | exact rfl) (fun K hK => ?_)
      rw [if_pos (by rfl)]
      go_simp
      refine hK.out _ _ (by exact HQ.out _ (((HB.out _).drew).alloc (by simp) _)) (fun hHeld => ?_)
      clear hK K
      try simp only [Act.put, List.setIfInBounds_toArray, List.set_cons_zero, List.set_cons_succ]
      refine wpAnyH_ready (rs := [18]) (by kernel_rfl) (by simp) ?_
      refine AllReadyH.cons2 (by simp only [List.getElem?_toArray, List.getElem?_cons_succ, List.getElem?_cons_zero]; first | done | exact rfl) (fun K hK => ?_)
      refine step_store_row rfl 24 (.tmp 4) (.tmp 26) rfl (w.heap.size + 1) #[I64 x0, I64 x1, I64 x2, I64 x3, .slice none 0 0, I64 0, .bool false] rfl rfl 24 #[.int .i64 0, .int .i64 0, .int .i64 0, .int .i64 0, .slice none 0 0, .int .i64 0, .bool false] (by exact Blk.new' (g := w.heap.size + 1) _ (by simp) rfl) (by kernel_rfl) rfl (cmd_one _ _ _ _ _ _ _ _ _) ?_
      refine hK.out _ _ (by exact HQ.out _ (Below.setRow (((HB.out _).drew).alloc (by simp) _) (by omega) _)) (fun hHeld => ?_)
      clear hK K
      try simp only [Act.put, List.setIfInBounds_toArray, List.set_cons_zero, List.set_cons_succ]
      refine wpAnyH_done (by kernel_rfl) ?_ _
      refine NoPanic.normal ?_
      clear v0 v1 v2 v3 hHeld p0 p1 p2 p3 c0 c1 c2 c3
      have HW := Lib.hid (Below.setRow (g := w.heap.size + 1) (((HB.out (.cells #[.int .i64 0, .int .i64 0, .int .i64 0, .int .i64 0, .slice none 0 0, .int .i64 0, .bool false] 24)).alloc (by simp) (.cells #[.int .i64 0, .int .i64 0, .int .i64 0, .int .i64 0, .slice none 0 0, .int .i64 0, .bool false] 24)).drew) (by omega) #[I64 x0, I64 x1, I64 x2, I64 x3, .slice none 0 0, I64 0, .bool false])
      have hB0 : Blk (World.setRow ((w.alloc (.cells #[.int .i64 0, .int .i64 0, .int .i64 0, .int .i64 0, .slice none 0 0, .int .i64 0, .bool false] 24)).alloc (.cells #[.int .i64 0, .int .i64 0, .int .i64 0, .int .i64 0, .slice none 0 0, .int .i64 0, .bool false] 24)).drew (w.heap.size + 1) #[I64 x0, I64 x1, I64 x2, I64 x3, .slice none 0 0, I64 0, .bool false]) w.heap.size 24 #[.int .i64 0, .int .i64 0, .int .i64 0, .int .i64 0, .slice none 0 0, .int .i64 0, .bool false] :=
        Blk.setRow_far (((Blk.new w _ _).alloc _).drew) (by omega) _
      have hB1 : Blk (World.setRow ((w.alloc (.cells #[.int .i64 0, .int .i64 0, .int .i64 0, .int .i64 0, .slice none 0 0, .int .i64 0, .bool false] 24)).alloc (.cells #[.int .i64 0, .int .i64 0, .int .i64 0, .int .i64 0, .slice none 0 0, .int .i64 0, .bool false] 24)).drew (w.heap.size + 1) #[I64 x0, I64 x1, I64 x2, I64 x3, .slice none 0 0, I64 0, .bool false]) (w.heap.size + 1) 24 #[I64 x0, I64 x1, I64 x2, I64 x3, .slice none 0 0, I64 0, .bool false] :=
        Blk.setRow ((Blk.new' (g := w.heap.size + 1) (w.alloc _) (by simp) rfl).drew) _
      have HB0 := Lib.hid hB0
      have HB1 := Lib.hid hB1
      clear hB0 hB1 HQ HB
      clear HP
      have q4 := hqq.out _ HW.out
      go_upto_region 8 with fail
      clear q4
      refine wp_region_noPanic ?_
      refine wp_region_held_drew (S := fun _ => True) (by kernel_rfl) (trivial) (fun hHeld => ?_)
      refine wpAnyH_take2 (i := 1) (by simp only [List.getElem?_toArray, List.getElem?_cons_succ, List.getElem?_cons_zero]; first | done | exact rfl) ⟨?_, by kernel_rfl, by kernel_rfl, by kernel_rfl, fun _ _ _ h => h, Or.inl ⟨by rfl, ?_⟩, by assumption, ?_⟩
      rotate_left 1
      · (intro w9 hSw; (try dsimp only at hSw); go_simp; try (with_reducible rfl))
      try simp only [Act.put, List.setIfInBounds_toArray, List.set_cons_zero, List.set_cons_succ]
      refine wpAnyH_take2 (i := 2) (by simp only [List.getElem?_toArray, List.getElem?_cons_succ, List.getElem?_cons_zero]; first | done | exact rfl) ⟨?_, by kernel_rfl, by kernel_rfl, by kernel_rfl, fun _ _ _ h => h, Or.inl ⟨by rfl, ?_⟩, by assumption, ?_⟩
      rotate_left 1
      · (intro w9 hSw; (try dsimp only at hSw); go_simp; try (with_reducible rfl))
      try simp only [Act.put, List.setIfInBounds_toArray, List.set_cons_zero, List.set_cons_succ]
      refine wpAnyH_ready (rs := [0]) (by kernel_rfl) (by simp) ?_
      refine AllReadyH.cons2 (by simp only [List.getElem?_toArray, List.getElem?_cons_succ, List.getElem?_cons_zero]; first | done | exact rfl) (fun K hK => ?_)
      refine step_load_row rfl 24 (.tmp 4) rfl (w.heap.size + 1) rfl 24 #[I64 x0, I64 x1, I64 x2, I64 x3, .slice none 0 0, I64 0, .bool false] (0, 0) _ (by exact HB1.out.drew) Try.underlying24 rfl (by kernel_rfl) ?_
      refine hK.out _ _ (trivial) (fun hHeld => ?_)
      clear hK K
      try simp only [Act.put, List.setIfInBounds_toArray, List.set_cons_zero, List.set_cons_succ]
      refine wpAnyH_ready (rs := [3]) (by kernel_rfl) (by simp) ?_
      refine AllReadyH.cons2 (by simp only [List.getElem?_toArray, List.getElem?_cons_succ, List.getElem?_cons_zero]; first | done | exact rfl) (fun K hK => ?_)
      rw [if_pos (by rfl)]
      go_simp
      go_at_call 48
      refine (HC.out _ _ _ (by exact (HD.out.below HW.out.drew).more HW.out.drew.size)).mono ?_
      rintro e w5 ⟨hb5, hres⟩
      obtain ⟨r0, r1, r2, r3, A5, n5, c5, l5, g5, rfl, hprop⟩ : ∃ (r0 r1 r2 r3 : Int) (A5 : Option Addr) (n5 c5 : Nat) (l5 : Int) (g5 : Bool), e = .returned (.tuple #[.agg #[I64 r0, I64 r1, I64 r2, I64 r3, .slice A5 n5 c5, I64 l5, .bool g5], .int .i64 (Apd.bdE d)]) ∧ (Apd.bdE d ≠ 0 ∨ (Apd.bdE d = 0 ∧ r0 = x0 ∧ r1 = x1 ∧ r2 = x2 ∧ r3 = x3 ∧ n5 = (Apd.bdD d).length ∧ l5 = (Apd.bdL d : Int) ∧ g5 = Apd.bdG d ∧ Own w5 w.heap.size 5 1 A5 (Apd.bdD d).length c5 (bcells (Apd.bdD d)))) := by
        rcases hres with ⟨h1, h2⟩ | ⟨h1, A5, c5, h2, h3⟩
        · exact ⟨0, 0, 0, 0, none, 0, 0, 0, false, h2, .inl h1⟩
        · exact ⟨x0, x1, x2, x3, A5, _, c5, _, _, by rw [h2, h1]; rfl, .inr ⟨h1, rfl, rfl, rfl, rfl, rfl, rfl, rfl, h3.mono HW.out.drew.size⟩⟩
      have HB05 := Lib.hid (HB0.out.drew.after hb5)
      have HB15 := Lib.hid (HB1.out.drew.after hb5)
      have HW5 := Lib.hid (bgo HW.out.drew hb5)
      have HPR := Lib.hid hprop
      clear hprop hres hb5 HB0 HB1 HW HC HD hqq
      go_wp2_with fail
      refine hK.out _ _ (trivial) (fun hHeld => ?_)
      clear hK K
      try simp only [Act.put, List.setIfInBounds_toArray, List.set_cons_zero, List.set_cons_succ]
      refine wpAnyH_take2 (i := 4) (by simp only [List.getElem?_toArray, List.getElem?_cons_succ, List.getElem?_cons_zero]; first | done | exact rfl) ⟨?_, by kernel_rfl, by kernel_rfl, by kernel_rfl, fun _ _ _ h => h, Or.inl ⟨by rfl, ?_⟩, by assumption, ?_⟩
      rotate_left 1
      · (intro w9 hSw; (try dsimp only at hSw); go_simp; try (with_reducible rfl))
      try simp only [Act.put, List.setIfInBounds_toArray, List.set_cons_zero, List.set_cons_succ]
      refine wpAnyH_take2 (i := 5) (by simp only [List.getElem?_toArray, List.getElem?_cons_succ, List.getElem?_cons_zero]; first | done | exact rfl) ⟨?_, by kernel_rfl, by kernel_rfl, by kernel_rfl, fun _ _ _ h => h, Or.inl ⟨by rfl, ?_⟩, by assumption, ?_⟩
      rotate_left 1
      · (intro w9 hSw; (try dsimp only at hSw); go_simp; try (with_reducible rfl))
      try simp only [Act.put, List.setIfInBounds_toArray, List.set_cons_zero, List.set_cons_succ]
      refine wpAnyH_take2 (i := 6) (by simp only [List.getElem?_toArray, List.getElem?_cons_succ, List.getElem?_cons_zero]; first | done | exact rfl) ⟨?_, by kernel_rfl, by kernel_rfl, by kernel_rfl, fun _ _ _ h => h, Or.inl ⟨by rfl, ?_⟩, by assumption, ?_⟩
      rotate_left 1
      · (intro w9 hSw; (try dsimp only at hSw); go_simp; try (with_reducible rfl))
      try simp only [Act.put, List.setIfInBounds_toArray, List.set_cons_zero, List.set_cons_succ]
      refine wpAnyH_ready (rs := [7]) (by kernel_rfl) (by simp) ?_
      refine AllReadyH.cons2 (by simp only [List.getElem?_toArray, List.getElem?_cons_succ, List.getElem?_cons_zero]; first | done | exact rfl) (fun K hK => ?_)
      refine step_store_row rfl 24 (.tmp 4) (.tmp 51) rfl (w.heap.size + 1) #[I64 r0, I64 r1, I64 r2, I64 r3, .slice A5 n5 c5, I64 l5, .bool g5] rfl rfl 24 #[I64 x0, I64 x1, I64 x2, I64 x3, .slice none 0 0, I64 0, .bool false] HB15.out (by kernel_rfl) rfl (cmd_one _ _ _ _ _ _ _ _ _) ?_
      refine hK.out _ _ (trivial) (fun hHeld => ?_)
      clear hK K
      try simp only [Act.put, List.setIfInBounds_toArray, List.set_cons_zero, List.set_cons_succ]
      refine wpAnyH_take2 (i := 8) (by simp only [List.getElem?_toArray, List.getElem?_cons_succ, List.getElem?_cons_zero]; first | done | exact rfl) ⟨?_, by kernel_rfl, by kernel_rfl, by kernel_rfl, fun _ _ _ h => h, Or.inl ⟨by rfl, ?_⟩, by assumption, ?_⟩
      rotate_left 1
      · (intro w9 hSw; (try dsimp only at hSw); go_simp; try (with_reducible rfl))
      try simp only [Act.put, List.setIfInBounds_toArray, List.set_cons_zero, List.set_cons_succ]
      refine wpAnyH_done (by kernel_rfl) ?_ _
      refine NoPanic.normal ?_
      have HB0 := Lib.hid (HB05.out.setRow_far (g' := w.heap.size + 1) (by omega) #[I64 r0, I64 r1, I64 r2, I64 r3, .slice A5 n5 c5, I64 l5, .bool g5])
      have HB1 := Lib.hid (HB15.out.setRow #[I64 r0, I64 r1, I64 r2, I64 r3, .slice A5 n5 c5, I64 l5, .bool g5])
      have HW := Lib.hid (Below.setRow HW5.out (Nat.le_succ _) #[I64 r0, I64 r1, I64 r2, I64 r3, .slice A5 n5 c5, I64 l5, .bool g5])
      by_cases her : Apd.bdE d = 0
      · have hee : Apd.dcE b = _ := HE.out.trans (if_neg (fun e => e her))
        have HEE := Lib.hid hee
        obtain ⟨-, rfl, rfl, rfl, rfl, rfl, rfl, rfl, ho⟩ := HPR.out.resolve_left (fun e => e her)
        have HO := Lib.hid (ho.setRow_ne HB15.out (by decide) #[I64 r0, I64 r1, I64 r2, I64 r3, .slice A5 (Apd.bdD d).length c5, I64 (Apd.bdL d : Int), .bool (Apd.bdG d)])
        have her2 : (Apd.bdE d == 0) = true := by rw [her]; rfl
        clear hee HE HPR HB05 HB15 HW5 ho
        go_wp2_with ((with_reducible show wpList _ _ _ (Oper.mk _ (Op.load 24 (Operand.tmp 4)) _ _ _ _ :: _) _ _); refine wpList_load_row rfl 24 (.tmp 4) rfl (w.heap.size + 1) rfl 24 #[I64 r0, I64 r1, I64 r2, I64 r3, .slice A5 (Apd.bdD d).length c5, I64 (Apd.bdL d : Int), .bool (Apd.bdG d)] (0, 0) _ (HB1.out) Try.underlying24 rfl (by kernel_rfl) ?_)
        go_at_call 15
        refine (HCk.out _ _ _ _ _ _ _ _ _ _).mono ?_
        rintro e w6 ⟨rfl, hb6⟩
        have HB06 := Lib.hid (HB0.out.after hb6)
        have HB16 := Lib.hid (HB1.out.after hb6)
        have HO6 := Lib.hid (HO.out.below hb6)
        have HW6 := Lib.hid (bgo HW.out hb6)
        clear HCk HB0 HB1 HO HW hb6
        generalize hzz : Apd.chk _ _ _ _ _ _ _ = z at *
        have HZ := Lib.hid hzz
        clear hzz
        by_cases hz : z = 0
        · subst hz
          go_wp2_with (first
            | ((with_reducible show wpList _ _ _ (Oper.mk _ (Op.load 24 (Operand.tmp 4)) _ _ _ _ :: _) _ _); refine wpList_load_row rfl 24 (.tmp 4) rfl (w.heap.size + 1) rfl 24 #[I64 r0, I64 r1, I64 r2, I64 r3, .slice A5 (Apd.bdD d).length c5, I64 (Apd.bdL d : Int), .bool (Apd.bdG d)] (0, 0) _ (HB16.out) Try.underlying24 rfl (by kernel_rfl) ?_)
            | ((with_reducible show wpList _ _ _ (Oper.mk _ (Op.store 24 (Operand.tmp 2) (Operand.tmp 61)) _ _ _ _ :: _) _ _); refine wpList_store_row rfl 24 (.tmp 2) (.tmp 61) rfl w.heap.size #[I64 r0, I64 r1, I64 r2, I64 r3, .slice A5 (Apd.bdD d).length c5, I64 (Apd.bdL d : Int), .bool (Apd.bdG d)] rfl rfl 24 _ HB06.out (by kernel_rfl) rfl (cmd_one _ _ _ _ _ _ _ _ _) ?_))
          refine bodyPost_ret (results_row_tmp rfl _ _ w.heap.size 24 _ (0, 0) _ rfl (by exact HB06.out.setRow _) Try.underlying24 rfl (by kernel_rfl)) rfl ⟨by exact Below.setRow HW6.out (Nat.le_refl _) _, .inr ?_⟩
          rw [HEE.out]
          refine ⟨rfl, A5, c5, rfl, ?_⟩
          exact (HO6.out.setRow_ne HB06.out (by decide) _).mono (by omega)
        · have hz2 : (z != 0) = true := bne_iff_ne.2 hz
          go_wp2_with ((with_reducible show wpList _ _ _ (Oper.mk _ (Op.store 24 (Operand.tmp 2) (Operand.tmp 59)) _ _ _ _ :: _) _ _); refine wpList_store_row rfl 24 (.tmp 2) (.tmp 59) rfl w.heap.size #[I64 0, I64 0, I64 0, I64 0, .slice none 0 0, I64 0, .bool false] rfl rfl 24 _ HB06.out (by kernel_rfl) rfl (cmd_one _ _ _ _ _ _ _ _ _) ?_)
          refine bodyPost_ret (results_row_tmp rfl _ _ w.heap.size 24 _ (0, 0) _ rfl (by exact HB06.out.setRow _) Try.underlying24 rfl (by kernel_rfl)) rfl ⟨by exact Below.setRow HW6.out (Nat.le_refl _) _, .inl ?_⟩
          rw [HEE.out]
          exact ⟨hz, rfl⟩
      · have hee : Apd.dcE b = Apd.bdE d := HE.out.trans (if_pos her)
        have HEE := Lib.hid hee
        have her2 : (Apd.bdE d != 0) = true := bne_iff_ne.2 her
        have her3 : (Apd.bdE d == 0) = false := beq_eq_false_iff_ne.2 her
        clear hee HE HPR HB05 HB15 HW5
        generalize Apd.bdE d = er at *
        go_wp2_with ((with_reducible show wpList _ _ _ (Oper.mk _ (Op.store 24 (Operand.tmp 2) (Operand.tmp 59)) _ _ _ _ :: _) _ _); refine wpList_store_row rfl 24 (.tmp 2) (.tmp 59) rfl w.heap.size #[I64 0, I64 0, I64 0, I64 0, .slice none 0 0, I64 0, .bool false] rfl rfl 24 _ HB0.out (by kernel_rfl) rfl (cmd_one _ _ _ _ _ _ _ _ _) ?_)
        refine bodyPost_ret (results_row_tmp rfl _ _ w.heap.size 24 _ (0, 0) _ rfl (by exact HB0.out.setRow _) Try.underlying24 rfl (by kernel_rfl)) rfl ⟨by exact Below.setRow HW.out (Nat.le_refl _) _, .inl ?_⟩
        rw [HEE.out]
        exact ⟨her, rfl⟩
    · have m2 : (5 : Int) < 4 + (m : Int) := by omega
      have hx0 : (((d.getD 0 0).toNat : Int) == 0) = false := by
        rw [beq_eq_false_iff_ne]
        intro e
        exact hsh.resolve_left h1 (UInt8.toNat_inj.1 (by simpa using e))
      clear hsh
      generalize (d.getD 0 0).toNat = x at *
      go_enter Try.func26, Try.ntmps26
      go_upto_region 3 with fail
      refine wp_region_noPanic ?_
      refine wp_region_held_drew (S := fun u => u.cell? ⟨bb, o, none⟩ = some (.int .u8 x0) ∧ u.cell? ⟨bb, o + 1, none⟩ = some (.int .u8 x1) ∧ u.cell? ⟨bb, o + 2, none⟩ = some (.int .u8 x2) ∧ u.cell? ⟨bb, o + 3, none⟩ = some (.int .u8 x3)) (by kernel_rfl) (by exact HQ.out _ (HB.out _).drew) (fun hHeld => ?_)
      refine wpAnyH_take2 (i := 0) (by simp only [List.getElem?_toArray, List.getElem?_cons_succ, List.getElem?_cons_zero]; first | done | exact rfl) ⟨?_, by kernel_rfl, by kernel_rfl, by kernel_rfl, fun _ _ _ h => h, Or.inl ⟨by rfl, ?_⟩, by assumption, ?_⟩
      rotate_left 1
      · (intro w9 hSw; (try dsimp only at hSw); go_simp; try (with_reducible rfl))
      try simp only [Act.put, List.setIfInBounds_toArray, List.set_cons_zero, List.set_cons_succ]
      refine wpAnyH_take2 (i := 1) (by simp only [List.getElem?_toArray, List.getElem?_cons_succ, List.getElem?_cons_zero]; first | done | exact rfl) ⟨?_, by kernel_rfl, by kernel_rfl, by kernel_rfl, fun _ _ _ h => h, Or.inl ⟨by rfl, ?_⟩, by assumption, ?_⟩
      rotate_left 1
      · (intro w9 hSw; (try dsimp only at hSw); go_simp; try (with_reducible rfl))
      try simp only [Act.put, List.setIfInBounds_toArray, List.set_cons_zero, List.set_cons_succ]
      refine wpAnyH_take2 (i := 2) (by simp only [List.getElem?_toArray, List.getElem?_cons_succ, List.getElem?_cons_zero]; first | done | exact rfl) ⟨?_, by kernel_rfl, by kernel_rfl, by kernel_rfl, fun _ _ _ h => h, Or.inl ⟨by rfl, ?_⟩, by assumption, ?_⟩
      rotate_left 1
      · (intro w9 hSw; (try dsimp only at hSw); go_simp; try (with_reducible rfl))
      try simp only [Act.put, List.setIfInBounds_toArray, List.set_cons_zero, List.set_cons_succ]
      refine wpAnyH_take2 (i := 3) (by simp only [List.getElem?_toArray, List.getElem?_cons_succ, List.getElem?_cons_zero]; first | done | exact rfl) ⟨?_, by kernel_rfl, by kernel_rfl, by kernel_rfl, fun _ _ _ h => h, Or.inl ⟨by rfl, ?_⟩, by assumption, ?_⟩
      rotate_left 1
      · (intro w9 hSw; (try dsimp only at hSw); go_simp; try (with_reducible rfl))
      try simp only [Act.put, List.setIfInBounds_toArray, List.set_cons_zero, List.set_cons_succ]
      refine wpAnyH_take2 (i := 4) (by simp only [List.getElem?_toArray, List.getElem?_cons_succ, List.getElem?_cons_zero]; first | done | exact rfl) ⟨?_, by kernel_rfl, by kernel_rfl, by kernel_rfl, fun _ _ _ h => h, Or.inl ⟨by rfl, ?_⟩, by assumption, ?_⟩
      rotate_left 1
      · (intro w9 hSw; (try dsimp only at hSw); go_simp; try (with_reducible rfl))
      try simp only [Act.put, List.setIfInBounds_toArray, List.set_cons_zero, List.set_cons_succ]
      refine wpAnyH_take2 (i := 5) (by simp only [List.getElem?_toArray, List.getElem?_cons_succ, List.getElem?_cons_zero]; first | done | exact rfl) ⟨?_, by kernel_rfl, by kernel_rfl, by kernel_rfl, fun _ _ _ h => h, Or.inl ⟨by rfl, ?_⟩, by assumption, ?_⟩
      rotate_left 1
      · (intro w9 hSw; (try dsimp only at hSw); go_simp; try (with_reducible rfl))
      try simp only [Act.put, List.setIfInBounds_toArray, List.set_cons_zero, List.set_cons_succ]
      refine wpAnyH_take2 (i := 6) (by simp only [List.getElem?_toArray, List.getElem?_cons_succ, List.getElem?_cons_zero]; first | done | exact rfl) ⟨?_, by kernel_rfl, by kernel_rfl, by kernel_rfl, fun _ _ _ h => h, Or.inl ⟨by rfl, ?_⟩, by assumption, ?_⟩
      rotate_left 1
      · (intro w9 hSw; (try dsimp only at hSw); go_simp; try (with_reducible rfl))
      try simp only [Act.put, List.setIfInBounds_toArray, List.set_cons_zero, List.set_cons_succ]
      refine wpAnyH_take2 (i := 7) (by simp only [List.getElem?_toArray, List.getElem?_cons_succ, List.getElem?_cons_zero]; first | done | exact rfl) ⟨?_, by kernel_rfl, by kernel_rfl, by kernel_rfl, fun _ _ _ h => h, Or.inl ⟨by rfl, ?_⟩, by assumption, ?_⟩
      rotate_left 1
      · (intro w9 hSw; (try dsimp only at hSw); go_simp; try (with_reducible rfl))
      try simp only [Act.put, List.setIfInBounds_toArray, List.set_cons_zero, List.set_cons_succ]
      refine wpAnyH_take2 (i := 8) (by simp only [List.getElem?_toArray, List.getElem?_cons_succ, List.getElem?_cons_zero]; first | done | exact rfl) ⟨?_, by kernel_rfl, by kernel_rfl, by kernel_rfl, fun _ _ _ h => h, Or.inl ⟨by rfl, ?_⟩, by assumption, ?_⟩
      rotate_left 1
      · (intro w9 hSw; (try dsimp only at hSw); go_simp; try (with_reducible rfl))
      try simp only [Act.put, List.setIfInBounds_toArray, List.set_cons_zero, List.set_cons_succ]
      refine wpAnyH_take2 (i := 9) (by simp only [List.getElem?_toArray, List.getElem?_cons_succ, List.getElem?_cons_zero]; first | done | exact rfl) ⟨?_, by kernel_rfl, by kernel_rfl, by kernel_rfl, fun _ _ _ h => h, Or.inl ⟨by rfl, ?_⟩, by assumption, ?_⟩
      rotate_left 1
      · (intro w9 hSw; (try dsimp only at hSw); go_simp; try (with_reducible rfl))
      try simp only [Act.put, List.setIfInBounds_toArray, List.set_cons_zero, List.set_cons_succ]
      refine wpAnyH_take2 (i := 10) (by simp only [List.getElem?_toArray, List.getElem?_cons_succ, List.getElem?_cons_zero]; first | done | exact rfl) ⟨?_, by kernel_rfl, by kernel_rfl, by kernel_rfl, fun _ _ _ h => h, Or.inl ⟨by rfl, ?_⟩, by assumption, ?_⟩
      rotate_left 1
      · (intro w9 hSw; (try dsimp only at hSw); go_simp; try (with_reducible rfl))
      try simp only [Act.put, List.setIfInBounds_toArray, List.set_cons_zero, List.set_cons_succ]
      refine wpAnyH_take2 (i := 11) (by simp only [List.getElem?_toArray, List.getElem?_cons_succ, List.getElem?_cons_zero]; first | done | exact rfl) ⟨?_, by kernel_rfl, by kernel_rfl, by kernel_rfl, fun _ _ _ h => h, Or.inl ⟨by rfl, ?_⟩, by assumption, ?_⟩
      rotate_left 1
      · (intro w9 hSw; (try dsimp only at hSw); go_simp; try (with_reducible rfl))
      try simp only [Act.put, List.setIfInBounds_toArray, List.set_cons_zero, List.set_cons_succ]
      refine wpAnyH_take2 (i := 12) (by simp only [List.getElem?_toArray, List.getElem?_cons_succ, List.getElem?_cons_zero]; first | done | exact rfl) ⟨?_, by kernel_rfl, by kernel_rfl, by kernel_rfl, fun _ _ _ h => h, Or.inl ⟨by rfl, ?_⟩, by assumption, ?_⟩
      rotate_left 1
      · (intro w9 hSw; (try dsimp only at hSw); go_simp; try (with_reducible rfl))
      try simp only [Act.put, List.setIfInBounds_toArray, List.set_cons_zero, List.set_cons_succ]
      refine wpAnyH_take2 (i := 13) (by simp only [List.getElem?_toArray, List.getElem?_cons_succ, List.getElem?_cons_zero]; first | done | exact rfl) ⟨?_, by kernel_rfl, by kernel_rfl, by kernel_rfl, fun _ _ _ h => h, Or.inl ⟨by rfl, ?_⟩, by assumption, ?_⟩
      rotate_left 1
      · (intro w9 hSw; (try dsimp only at hSw); go_simp; try (with_reducible rfl))
      try simp only [Act.put, List.setIfInBounds_toArray, List.set_cons_zero, List.set_cons_succ]
      refine wpAnyH_take2 (i := 14) (by simp only [List.getElem?_toArray, List.getElem?_cons_succ, List.getElem?_cons_zero]; first | done | exact rfl) ⟨?_, by kernel_rfl, by kernel_rfl, by kernel_rfl, fun _ _ _ h => h, Or.inl ⟨by rfl, ?_⟩, by assumption, ?_⟩
      rotate_left 1
      · (intro w9 hSw; (try dsimp only at hSw); go_simp; try (with_reducible rfl))
      try simp only [Act.put, List.setIfInBounds_toArray, List.set_cons_zero, List.set_cons_succ]
      refine wpAnyH_take2 (i := 15) (by simp only [List.getElem?_toArray, List.getElem?_cons_succ, List.getElem?_cons_zero]; first | done | exact rfl) ⟨?_, by kernel_rfl, by kernel_rfl, by kernel_rfl, fun _ _ _ h => h, Or.inl ⟨by rfl, ?_⟩, by assumption, ?_⟩
      rotate_left 1
      · (intro w9 hSw; (try dsimp only at hSw); go_simp; try (with_reducible rfl))
      try simp only [Act.put, List.setIfInBounds_toArray, List.set_cons_zero, List.set_cons_succ]
      refine wpAnyH_take2 (i := 16) (by simp only [List.getElem?_toArray, List.getElem?_cons_succ, List.getElem?_cons_zero]; first | done | exact rfl) ⟨?_, by kernel_rfl, by kernel_rfl, by kernel_rfl, fun _ _ _ h => h, Or.inl ⟨by rfl, ?_⟩, by assumption, ?_⟩
      rotate_left 1
      · (intro w9 hSw; (try dsimp only at hSw); go_simp; try (with_reducible rfl))
      try simp only [Act.put, List.setIfInBounds_toArray, List.set_cons_zero, List.set_cons_succ]
      refine wpAnyH_ready (rs := [17]) (by kernel_rfl) (by simp) ?_
      refine AllReadyH.cons2 (by simp only [List.getElem?_toArray, List.getElem?_cons_succ, List.getElem?_cons_zero]; first | done | exact rfl) (fun K hK => ?_)
      rw [if_pos (by rfl)]
      go_simp
      refine hK.out _ _ (by exact HQ.out _ (((HB.out _).drew).alloc (by simp) _)) (fun hHeld => ?_)
      clear hK K
      try simp only [Act.put, List.setIfInBounds_toArray, List.set_cons_zero, List.set_cons_succ]
      refine wpAnyH_ready (rs := [18]) (by kernel_rfl) (by simp) ?_
      refine AllReadyH.cons2 (by simp only [List.getElem?_toArray, List.getElem?_cons_succ, List.getElem?_cons_zero]; first | done | exact rfl) (fun K hK => ?_)
      refine step_store_row rfl 24 (.tmp 4) (.tmp 26) rfl (w.heap.size + 1) #[I64 x0, I64 x1, I64 x2, I64 x3, .slice none 0 0, I64 0, .bool false] rfl rfl 24 #[.int .i64 0, .int .i64 0, .int .i64 0, .int .i64 0, .slice none 0 0, .int .i64 0, .bool false] (by exact Blk.new' (g := w.heap.size + 1) _ (by simp) rfl) (by kernel_rfl) rfl (cmd_one _ _ _ _ _ _ _ _ _) ?_
      refine hK.out _ _ (by exact HQ.out _ (Below.setRow (((HB.out _).drew).alloc (by simp) _) (by omega) _)) (fun hHeld => ?_)
      clear hK K
      try simp only [Act.put, List.setIfInBounds_toArray, List.set_cons_zero, List.set_cons_succ]
      refine wpAnyH_done (by kernel_rfl) ?_ _
      refine NoPanic.normal ?_
      clear v0 v1 v2 v3 hHeld p0 p1 p2 p3 c0 c1 c2 c3
      have HW := Lib.hid (Below.setRow (g := w.heap.size + 1) (((HB.out (.cells #[.int .i64 0, .int .i64 0, .int .i64 0, .int .i64 0, .slice none 0 0, .int .i64 0, .bool false] 24)).alloc (by simp) (.cells #[.int .i64 0, .int .i64 0, .int .i64 0, .int .i64 0, .slice none 0 0, .int .i64 0, .bool false] 24)).drew) (by omega) #[I64 x0, I64 x1, I64 x2, I64 x3, .slice none 0 0, I64 0, .bool false])
      have hB0 : Blk (World.setRow ((w.alloc (.cells #[.int .i64 0, .int .i64 0, .int .i64 0, .int .i64 0, .slice none 0 0, .int .i64 0, .bool false] 24)).alloc (.cells #[.int .i64 0, .int .i64 0, .int .i64 0, .int .i64 0, .slice none 0 0, .int .i64 0, .bool false] 24)).drew (w.heap.size + 1) #[I64 x0, I64 x1, I64 x2, I64 x3, .slice none 0 0, I64 0, .bool false]) w.heap.size 24 #[.int .i64 0, .int .i64 0, .int .i64 0, .int .i64 0, .slice none 0 0, .int .i64 0, .bool false] :=
        Blk.setRow_far (((Blk.new w _ _).alloc _).drew) (by omega) _
      have hB1 : Blk (World.setRow ((w.alloc (.cells #[.int .i64 0, .int .i64 0, .int .i64 0, .int .i64 0, .slice none 0 0, .int .i64 0, .bool false] 24)).alloc (.cells #[.int .i64 0, .int .i64 0, .int .i64 0, .int .i64 0, .slice none 0 0, .int .i64 0, .bool false] 24)).drew (w.heap.size + 1) #[I64 x0, I64 x1, I64 x2, I64 x3, .slice none 0 0, I64 0, .bool false]) (w.heap.size + 1) 24 #[I64 x0, I64 x1, I64 x2, I64 x3, .slice none 0 0, I64 0, .bool false] :=
        Blk.setRow ((Blk.new' (g := w.heap.size + 1) (w.alloc _) (by simp) rfl).drew) _
      have HB0 := Lib.hid hB0
      have HB1 := Lib.hid hB1
      clear hB0 hB1 HQ HB
      clear HP
      have q4 := hqq.out _ HW.out
      go_upto_region 8 with fail
      clear q4
      refine wp_region_noPanic ?_
      refine wp_region_held_drew (S := fun _ => True) (by kernel_rfl) (trivial) (fun hHeld => ?_)
      refine wpAnyH_take2 (i := 1) (by simp only [List.getElem?_toArray, List.getElem?_cons_succ, List.getElem?_cons_zero]; first | done | exact rfl) ⟨?_, by kernel_rfl, by kernel_rfl, by kernel_rfl, fun _ _ _ h => h, Or.inl ⟨by rfl, ?_⟩, by assumption, ?_⟩
      rotate_left 1
      · (intro w9 hSw; (try dsimp only at hSw); go_simp; try (with_reducible rfl))
      try simp only [Act.put, List.setIfInBounds_toArray, List.set_cons_zero, List.set_cons_succ]
      refine wpAnyH_take2 (i := 2) (by simp only [List.getElem?_toArray, List.getElem?_cons_succ, List.getElem?_cons_zero]; first | done | exact rfl) ⟨?_, by kernel_rfl, by kernel_rfl, by kernel_rfl, fun _ _ _ h => h, Or.inl ⟨by rfl, ?_⟩, by assumption, ?_⟩
      rotate_left 1
      · (intro w9 hSw; (try dsimp only at hSw); go_simp; try (with_reducible rfl))
      try simp only [Act.put, List.setIfInBounds_toArray, List.set_cons_zero, List.set_cons_succ]
      refine wpAnyH_ready (rs := [0]) (by kernel_rfl) (by simp) ?_
      refine AllReadyH.cons2 (by simp only [List.getElem?_toArray, List.getElem?_cons_succ, List.getElem?_cons_zero]; first | done | exact rfl) (fun K hK => ?_)
      refine step_load_row rfl 24 (.tmp 4) rfl (w.heap.size + 1) rfl 24 #[I64 x0, I64 x1, I64 x2, I64 x3, .slice none 0 0, I64 0, .bool false] (0, 0) _ (by exact HB1.out.drew) Try.underlying24 rfl (by kernel_rfl) ?_
      refine hK.out _ _ (trivial) (fun hHeld => ?_)
      clear hK K
      try simp only [Act.put, List.setIfInBounds_toArray, List.set_cons_zero, List.set_cons_succ]
      refine wpAnyH_ready (rs := [3]) (by kernel_rfl) (by simp) ?_
      refine AllReadyH.cons2 (by simp only [List.getElem?_toArray, List.getElem?_cons_succ, List.getElem?_cons_zero]; first | done | exact rfl) (fun K hK => ?_)
      rw [if_pos (by rfl)]
      go_simp
      go_at_call 48
      refine (HC.out _ _ _ (by exact (HD.out.below HW.out.drew).more HW.out.drew.size)).mono ?_
      rintro e w5 ⟨hb5, hres⟩
      obtain ⟨r0, r1, r2, r3, A5, n5, c5, l5, g5, rfl, hprop⟩ : ∃ (r0 r1 r2 r3 : Int) (A5 : Option Addr) (n5 c5 : Nat) (l5 : Int) (g5 : Bool), e = .returned (.tuple #[.agg #[I64 r0, I64 r1, I64 r2, I64 r3, .slice A5 n5 c5, I64 l5, .bool g5], .int .i64 (Apd.bdE d)]) ∧ (Apd.bdE d ≠ 0 ∨ (Apd.bdE d = 0 ∧ r0 = x0 ∧ r1 = x1 ∧ r2 = x2 ∧ r3 = x3 ∧ n5 = (Apd.bdD d).length ∧ l5 = (Apd.bdL d : Int) ∧ g5 = Apd.bdG d ∧ Own w5 w.heap.size 5 1 A5 (Apd.bdD d).length c5 (bcells (Apd.bdD d)))) := by
        rcases hres with ⟨h1, h2⟩ | ⟨h1, A5, c5, h2, h3⟩
        · exact ⟨0, 0, 0, 0, none, 0, 0, 0, false, h2, .inl h1⟩
        · exact ⟨x0, x1, x2, x3, A5, _, c5, _, _, by rw [h2, h1]; rfl, .inr ⟨h1, rfl, rfl, rfl, rfl, rfl, rfl, rfl, h3.mono HW.out.drew.size⟩⟩
      have HB05 := Lib.hid (HB0.out.drew.after hb5)
      have HB15 := Lib.hid (HB1.out.drew.after hb5)
      have HW5 := Lib.hid (bgo HW.out.drew hb5)
      have HPR := Lib.hid hprop
      clear hprop hres hb5 HB0 HB1 HW HC HD hqq
      go_wp2_with fail
      refine hK.out _ _ (trivial) (fun hHeld => ?_)
      clear hK K
      try simp only [Act.put, List.setIfInBounds_toArray, List.set_cons_zero, List.set_cons_succ]
      refine wpAnyH_take2 (i := 4) (by simp only [List.getElem?_toArray, List.getElem?_cons_succ, List.getElem?_cons_zero]; first | done | exact rfl) ⟨?_, by kernel_rfl, by kernel_rfl, by kernel_rfl, fun _ _ _ h => h, Or.inl ⟨by rfl, ?_⟩, by assumption, ?_⟩
      rotate_left 1
      · (intro w9 hSw; (try dsimp only at hSw); go_simp; try (with_reducible rfl))
      try simp only [Act.put, List.setIfInBounds_toArray, List.set_cons_zero, List.set_cons_succ]
      refine wpAnyH_take2 (i := 5) (by simp only [List.getElem?_toArray, List.getElem?_cons_succ, List.getElem?_cons_zero]; first | done | exact rfl) ⟨?_, by kernel_rfl, by kernel_rfl, by kernel_rfl, fun _ _ _ h => h, Or.inl ⟨by rfl, ?_⟩, by assumption, ?_⟩
      rotate_left 1
      · (intro w9 hSw; (try dsimp only at hSw); go_simp; try (with_reducible rfl))
      try simp only [Act.put, List.setIfInBounds_toArray, List.set_cons_zero, List.set_cons_succ]
      refine wpAnyH_take2 (i := 6) (by simp only [List.getElem?_toArray, List.getElem?_cons_succ, List.getElem?_cons_zero]; first | done | exact rfl) ⟨?_, by kernel_rfl, by kernel_rfl, by kernel_rfl, fun _ _ _ h => h, Or.inl ⟨by rfl, ?_⟩, by assumption, ?_⟩
      rotate_left 1
      · (intro w9 hSw; (try dsimp only at hSw); go_simp; try (with_reducible rfl))
      try simp only [Act.put, List.setIfInBounds_toArray, List.set_cons_zero, List.set_cons_succ]
      refine wpAnyH_ready (rs := [7]) (by kernel_rfl) (by simp) ?_
      refine AllReadyH.cons2 (by simp only [List.getElem?_toArray, List.getElem?_cons_succ, List.getElem?_cons_zero]; first | done | exact rfl) (fun K hK => ?_)
      refine step_store_row rfl 24 (.tmp 4) (.tmp 51) rfl (w.heap.size + 1) #[I64 r0, I64 r1, I64 r2, I64 r3, .slice A5 n5 c5, I64 l5, .bool g5] rfl rfl 24 #[I64 x0, I64 x1, I64 x2, I64 x3, .slice none 0 0, I64 0, .bool false] HB15.out (by kernel_rfl) rfl (cmd_one _ _ _ _ _ _ _ _ _) ?_
      refine hK.out _ _ (trivial) (fun hHeld => ?_)
      clear hK K
      try simp only [Act.put, List.setIfInBounds_toArray, List.set_cons_zero, List.set_cons_succ]
      refine wpAnyH_take2 (i := 8) (by simp only [List.getElem?_toArray, List.getElem?_cons_succ, List.getElem?_cons_zero]; first | done | exact rfl) ⟨?_, by kernel_rfl, by kernel_rfl, by kernel_rfl, fun _ _ _ h => h, Or.inl ⟨by rfl, ?_⟩, by assumption, ?_⟩
      rotate_left 1
      · (intro w9 hSw; (try dsimp only at hSw); go_simp; try (with_reducible rfl))
      try simp only [Act.put, List.setIfInBounds_toArray, List.set_cons_zero, List.set_cons_succ]
      refine wpAnyH_done (by kernel_rfl) ?_ _
      refine NoPanic.normal ?_
      have HB0 := Lib.hid (HB05.out.setRow_far (g' := w.heap.size + 1) (by omega) #[I64 r0, I64 r1, I64 r2, I64 r3, .slice A5 n5 c5, I64 l5, .bool g5])
      have HB1 := Lib.hid (HB15.out.setRow #[I64 r0, I64 r1, I64 r2, I64 r3, .slice A5 n5 c5, I64 l5, .bool g5])
      have HW := Lib.hid (Below.setRow HW5.out (Nat.le_succ _) #[I64 r0, I64 r1, I64 r2, I64 r3, .slice A5 n5 c5, I64 l5, .bool g5])
      by_cases her : Apd.bdE d = 0
      · have hee : Apd.dcE b = _ := HE.out.trans (if_neg (fun e => e her))
        have HEE := Lib.hid hee
        obtain ⟨-, rfl, rfl, rfl, rfl, rfl, rfl, rfl, ho⟩ := HPR.out.resolve_left (fun e => e her)
        have HO := Lib.hid (ho.setRow_ne HB15.out (by decide) #[I64 r0, I64 r1, I64 r2, I64 r3, .slice A5 (Apd.bdD d).length c5, I64 (Apd.bdL d : Int), .bool (Apd.bdG d)])
        have her2 : (Apd.bdE d == 0) = true := by rw [her]; rfl
        clear hee HE HPR HB05 HB15 HW5 ho
        go_wp2_with ((with_reducible show wpList _ _ _ (Oper.mk _ (Op.load 24 (Operand.tmp 4)) _ _ _ _ :: _) _ _); refine wpList_load_row rfl 24 (.tmp 4) rfl (w.heap.size + 1) rfl 24 #[I64 r0, I64 r1, I64 r2, I64 r3, .slice A5 (Apd.bdD d).length c5, I64 (Apd.bdL d : Int), .bool (Apd.bdG d)] (0, 0) _ (HB1.out) Try.underlying24 rfl (by kernel_rfl) ?_)
        go_at_call 15
        refine (HCk.out _ _ _ _ _ _ _ _ _ _).mono ?_
        rintro e w6 ⟨rfl, hb6⟩
        have HB06 := Lib.hid (HB0.out.after hb6)
        have HB16 := Lib.hid (HB1.out.after hb6)
        have HO6 := Lib.hid (HO.out.below hb6)
        have HW6 := Lib.hid (bgo HW.out hb6)
        clear HCk HB0 HB1 HO HW hb6
        generalize hzz : Apd.chk _ _ _ _ _ _ _ = z at *
        have HZ := Lib.hid hzz
        clear hzz
        by_cases hz : z = 0
        · subst hz
          go_wp2_with (first
            | ((with_reducible show wpList _ _ _ (Oper.mk _ (Op.load 24 (Operand.tmp 4)) _ _ _ _ :: _) _ _); refine wpList_load_row rfl 24 (.tmp 4) rfl (w.heap.size + 1) rfl 24 #[I64 r0, I64 r1, I64 r2, I64 r3, .slice A5 (Apd.bdD d).length c5, I64 (Apd.bdL d : Int), .bool (Apd.bdG d)] (0, 0) _ (HB16.out) Try.underlying24 rfl (by kernel_rfl) ?_)
            | ((with_reducible show wpList _ _ _ (Oper.mk _ (Op.store 24 (Operand.tmp 2) (Operand.tmp 61)) _ _ _ _ :: _) _ _); refine wpList_store_row rfl 24 (.tmp 2) (.tmp 61) rfl w.heap.size #[I64 r0, I64 r1, I64 r2, I64 r3, .slice A5 (Apd.bdD d).length c5, I64 (Apd.bdL d : Int), .bool (Apd.bdG d)] rfl rfl 24 _ HB06.out (by kernel_rfl) rfl (cmd_one _ _ _ _ _ _ _ _ _) ?_))
          refine bodyPost_ret (results_row_tmp rfl _ _ w.heap.size 24 _ (0, 0) _ rfl (by exact HB06.out.setRow _) Try.underlying24 rfl (by kernel_rfl)) rfl ⟨by exact Below.setRow HW6.out (Nat.le_refl _) _, .inr ?_⟩
          rw [HEE.out]
          refine ⟨rfl, A5, c5, rfl, ?_⟩
          exact (HO6.out.setRow_ne HB06.out (by decide) _).mono (by omega)
        · have hz2 : (z != 0) = true := bne_iff_ne.2 hz
          go_wp2_with ((with_reducible show wpList _ _ _ (Oper.mk _ (Op.store 24 (Operand.tmp 2) (Operand.tmp 59)) _ _ _ _ :: _) _ _); refine wpList_store_row rfl 24 (.tmp 2) (.tmp 59) rfl w.heap.size #[I64 0, I64 0, I64 0, I64 0, .slice none 0 0, I64 0, .bool false] rfl rfl 24 _ HB06.out (by kernel_rfl) rfl (cmd_one _ _ _ _ _ _ _ _ _) ?_)
          refine bodyPost_ret (results_row_tmp rfl _ _ w.heap.size 24 _ (0, 0) _ rfl (by exact HB06.out.setRow _) Try.underlying24 rfl (by kernel_rfl)) rfl ⟨by exact Below.setRow HW6.out (Nat.le_refl _) _, .inl ?_⟩
          rw [HEE.out]
          exact ⟨hz, rfl⟩
      · have hee : Apd.dcE b = Apd.bdE d := HE.out.trans (if_pos her)
        have HEE := Lib.hid hee
        have her2 : (Apd.bdE d != 0) = true := bne_iff_ne.2 her
        have her3 : (Apd.bdE d == 0) = false := beq_eq_false_iff_ne.2 her
        clear hee HE HPR HB05 HB15 HW5
        generalize Apd.bdE d = er at *
        go_wp2_with ((with_reducible show wpList _ _ _ (Oper.mk _ (Op.store 24 (Operand.tmp 2) (Operand.tmp 59)) _ _ _ _ :: _) _ _); refine wpList_store_row rfl 24 (.tmp 2) (.tmp 59) rfl w.heap.size #[I64 0, I64 0, I64 0, I64 0, .slice none 0 0, I64 0, .bool false] rfl rfl 24 _ HB0.out (by kernel_rfl) rfl (cmd_one _ _ _ _ _ _ _ _ _) ?_)
        refine bodyPost_ret (results_row_tmp rfl _ _ w.heap.size 24 _ (0, 0) _ rfl (by exact HB0.out.setRow _) Try.underlying24 rfl (by kernel_rfl)) rfl ⟨by exact Below.setRow HW.out (Nat.le_refl _) _, .inl ?_⟩
        rw [HEE.out]
        exact ⟨her, rfl⟩
end Go.Proofs.Ytapfiapjefnjjaa
