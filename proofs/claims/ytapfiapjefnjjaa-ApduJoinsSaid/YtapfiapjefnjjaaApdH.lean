/-
  The walk of Decode.
-/
import Derived.Test.YtapfiapjefnjjaaApdG
namespace Go.Proofs.Ytapfiapjefnjjaa
set_option linter.unusedSimpArgs false
open Go.RowKit

/-- A byte as a number. -/
def Apd.cel (b : List UInt8) (i : Nat) : Int := ((b.getD i 0).toNat : Int)
/-- The error of Decode. -/
def Apd.dcE (b : List UInt8) : Int :=
  if b.length < 4 then 5 else if Apd.bdE (b.drop 4) ≠ 0 then Apd.bdE (b.drop 4)
  else Apd.chk (Apd.cel b 0) (Apd.cel b 1) (Apd.cel b 2) (Apd.cel b 3) (Apd.bdD (b.drop 4)).length (Apd.bdL (b.drop 4) : Int) (Apd.bdG (b.drop 4))
/-- What Decode leaves. -/
def DRes (w : World) (b : List UInt8) (e : Ending) (w' : World) : Prop :=
  Below w.heap.size w w' ∧
  ((Apd.dcE b ≠ 0 ∧ e = .returned (.tuple #[cmdV 0 0 0 0 none 0 0 0 false, .int .i64 (Apd.dcE b)])) ∨
   (Apd.dcE b = 0 ∧ ∃ A c, e = .returned (.tuple #[cmdV (Apd.cel b 0) (Apd.cel b 1) (Apd.cel b 2) (Apd.cel b 3) A (Apd.bdD (b.drop 4)).length c (Apd.bdL (b.drop 4) : Int) (Apd.bdG (b.drop 4)), .int .i64 0]) ∧
     Own w' w.heap.size 5 1 A (Apd.bdD (b.drop 4)).length c (bcells (Apd.bdD (b.drop 4)))))

theorem Own.setRow_ne {w : World} {b g : Nat} {t t' : TypeId} {A : Option Addr} {n c : Nat} {cs : List Value} {old : Array Value} (h : Own w b t 1 A n c cs) (hB : Blk w g t' old) (hne : t ≠ t') (cells : Array Value) : Own (w.setRow g cells) b t 1 A n c cs :=
  ⟨h.1, h.2.1, h.2.2.1, fun hc => by
    obtain ⟨g2, cur, e, hg, hh, r⟩ := h.2.2.2 hc
    refine ⟨g2, cur, e, hg, ?_, r⟩
    have hgg : g2 ≠ g := fun e2 => by
      subst e2
      unfold Blk at hB
      rw [hh] at hB
      injection hB with hB
      injection hB with _ h2 _
      exact hne h2
    exact Blk.setRow_far hh hgg cells⟩

theorem cmd_one (cla ins p1 p2 : Int) (A : Option Addr) (n c : Nat) (le : Int) (long : Bool) : (#[I64 cla, I64 ins, I64 p1, I64 p2, .slice A n c, I64 le, .bool long] : Array Value).all (·.oneCell') = true := by simp [Value.oneCell']

set_option maxRecDepth 100000 in
set_option maxHeartbeats 8000000 in
theorem apdu_Decode (A : Option Addr) (n c : Nat) (b : List UInt8) (w : World) (h : Byt w w.heap.size A n c b) (hn : n ≤ 1000000) :
    Calls Try.prog 23 #[.slice A n c] w (DRes w b) := by
  have hl := h.1
  have HB := Lib.hid (fun o => (Below.refl w.heap.size w).alloc (Nat.le_refl _) o)
  unfold DRes
  by_cases h4 : n < 4
  · have e : Apd.dcE b = 5 := by unfold Apd.dcE; rw [if_pos (by omega)]
    rw [e]
    clear e h hl
    go_enter Try.func23, Try.ntmps23
    go_wp2_with fail
    refine bodyPost_ret (results_row_tmp rfl _ _ w.heap.size 24 _ (0, 0) _ rfl (Blk.new' _ (by simp) rfl) Try.underlying24 rfl (by kernel_rfl)) rfl ⟨HB.out _, .inl ⟨by decide, rfl⟩⟩
  obtain ⟨m, rfl⟩ : ∃ m, n = 4 + m := ⟨n - 4, by omega⟩
  obtain ⟨bb, o, rfl, hbb⟩ := h.at_ (by omega)
  have HQ := Lib.hid (fun (u : World) (hb : Below w.heap.size w u) => (⟨by have := (h.below hb).2.2.byte 0 (by omega); rwa [Nat.add_zero] at this, (h.below hb).2.2.byte 1 (by omega), (h.below hb).2.2.byte 2 (by omega), (h.below hb).2.2.byte 3 (by omega)⟩ :
    u.cell? ⟨bb, o, none⟩ = some (.int .u8 (Apd.cel b 0)) ∧ u.cell? ⟨bb, o + 1, none⟩ = some (.int .u8 (Apd.cel b 1)) ∧ u.cell? ⟨bb, o + 2, none⟩ = some (.int .u8 (Apd.cel b 2)) ∧ u.cell? ⟨bb, o + 3, none⟩ = some (.int .u8 (Apd.cel b 3))))
  have hcel : ∀ i, 0 ≤ Apd.cel b i ∧ Apd.cel b i < 256 := fun i => ⟨by unfold Apd.cel; omega, by unfold Apd.cel; have := (b.getD i 0).toNat_lt; omega⟩
  have c0 := hcel 0
  have c1 := hcel 1
  have c2 := hcel 2
  have c3 := hcel 3
  have HD := Lib.hid (Byt.drop h 4 (by omega))
  rw [Nat.add_sub_cancel_left] at HD
  have hE : Apd.dcE b = if Apd.bdE (b.drop 4) ≠ 0 then Apd.bdE (b.drop 4) else Apd.chk (Apd.cel b 0) (Apd.cel b 1) (Apd.cel b 2) (Apd.cel b 3) (Apd.bdD (b.drop 4)).length (Apd.bdL (b.drop 4) : Int) (Apd.bdG (b.drop 4)) := by unfold Apd.dcE; rw [if_neg (by omega)]
  have hnc := h.2.1
  have HE := Lib.hid hE
  clear hE h hcel hl
  generalize Apd.cel b 0 = x0 at *
  generalize Apd.cel b 1 = x1 at *
  generalize Apd.cel b 2 = x2 at *
  generalize Apd.cel b 3 = x3 at *
  generalize b.drop 4 = d at *
  have hBody := fun (g : Nat) (A' : Option Addr) (c' : Nat) (u : World) => apdu_body g A' m c' d x0 x1 x2 x3 u
  have hCk := fun (A5 : Option Addr) (c5 : Nat) (u : World) => apdu_Check x0 x1 x2 x3 A5 (Apd.bdD d).length c5 (Apd.bdL d : Int) (Apd.bdG d) u
  unfold BodyRes at hBody
  unfold cmdV at hCk
  generalize Apd.bdE d = er at *
  generalize Apd.chk x0 x1 x2 x3 (Apd.bdD d).length (Apd.bdL d : Int) (Apd.bdG d) = z at *
  generalize Apd.bdD d = D at *
  generalize Apd.bdL d = L at *
  generalize Apd.bdG d = G at *
  generalize Apd.dcE b = ee at *
  have HBody := Lib.hid hBody
  have HCk := Lib.hid hCk
  clear hBody hCk
  have v0 : IntKind.i64.wrap x0 = x0 := IntWalk.i64_in _ (by omega)
  have v1 : IntKind.i64.wrap x1 = x1 := IntWalk.i64_in _ (by omega)
  have v2 : IntKind.i64.wrap x2 = x2 := IntWalk.i64_in _ (by omega)
  have v3 : IntKind.i64.wrap x3 = x3 := IntWalk.i64_in _ (by omega)
  have p0 : (0 : Int) < 4 + (m : Int) := by omega
  have p1 : (1 : Int) < 4 + (m : Int) := by omega
  have p2 : (2 : Int) < 4 + (m : Int) := by omega
  have p3 : (3 : Int) < 4 + (m : Int) := by omega
  go_enter Try.func23, Try.ntmps23
  go_upto_region 3 with fail
  refine wp_region_noPanic ?_
  refine wp_region_held_drew (S := fun u => u.cell? ⟨bb, o, none⟩ = some (.int .u8 x0) ∧ u.cell? ⟨bb, o + 1, none⟩ = some (.int .u8 x1) ∧ u.cell? ⟨bb, o + 2, none⟩ = some (.int .u8 x2) ∧ u.cell? ⟨bb, o + 3, none⟩ = some (.int .u8 x3)) (by kernel_rfl) (by exact HQ.out _ (HB.out _).drew) (fun hHeld => ?_)
  refine wpAnyH_take2 (i := 0) (by simp only [List.getElem?_toArray, List.getElem?_cons_succ, List.getElem?_cons_zero]; first | done | exact rfl) ⟨?_, by kernel_rfl, by kernel_rfl, by kernel_rfl, fun _ _ _ h => h, Or.inl ⟨by rfl, ?_⟩, by assumption, ?_⟩
  rotate_left 1
  · (intro w9 hSw; (try dsimp only at hSw); go_simp; try (with_reducible rfl))
  try simp only [Act.put, List.setIfInBounds_toArray, List.set_cons_zero, List.set_cons_succ]
  refine wpAnyH_take2 (i := 1) (by simp only [List.getElem?_toArray, List.getElem?_cons_succ, List.getElem?_cons_zero]; first | done | exact rfl) ⟨?_, by kernel_rfl, by kernel_rfl, by kernel_rfl, fun _ _ _ h => h, Or.inl ⟨by rfl, ?_⟩, by assumption, ?_⟩
  rotate_left 1
  · (intro w9 hSw; (try dsimp only at hSw); go_simp; try (with_reducible rfl))
  try simp only [Act.put, List.setIfInBounds_toArray, List.set_cons_zero, List.set_cons_succ]
  refine wpAnyH_take2 (i := 2) (by simp only [List.getElem?_toArray, List.getElem?_cons_succ, List.getElem?_cons_zero]; first | done | exact rfl) ⟨?_, by kernel_rfl, by kernel_rfl, by kernel_rfl, fun _ _ _ h => h, Or.inl ⟨by rfl, ?_⟩, by assumption, ?_⟩
  rotate_left 1
  · (intro w9 hSw; (try dsimp only at hSw); go_simp; try (with_reducible rfl))
  try simp only [Act.put, List.setIfInBounds_toArray, List.set_cons_zero, List.set_cons_succ]
  refine wpAnyH_take2 (i := 3) (by simp only [List.getElem?_toArray, List.getElem?_cons_succ, List.getElem?_cons_zero]; first | done | exact rfl) ⟨?_, by kernel_rfl, by kernel_rfl, by kernel_rfl, fun _ _ _ h => h, Or.inl ⟨by rfl, ?_⟩, by assumption, ?_⟩
  rotate_left 1
  · (intro w9 hSw; (try dsimp only at hSw); go_simp; try (with_reducible rfl))
  try simp only [Act.put, List.setIfInBounds_toArray, List.set_cons_zero, List.set_cons_succ]
  refine wpAnyH_take2 (i := 4) (by simp only [List.getElem?_toArray, List.getElem?_cons_succ, List.getElem?_cons_zero]; first | done | exact rfl) ⟨?_, by kernel_rfl, by kernel_rfl, by kernel_rfl, fun _ _ _ h => h, Or.inl ⟨by rfl, ?_⟩, by assumption, ?_⟩
  rotate_left 1
  · (intro w9 hSw; (try dsimp only at hSw); go_simp; try (with_reducible rfl))
  try simp only [Act.put, List.setIfInBounds_toArray, List.set_cons_zero, List.set_cons_succ]
  refine wpAnyH_take2 (i := 5) (by simp only [List.getElem?_toArray, List.getElem?_cons_succ, List.getElem?_cons_zero]; first | done | exact rfl) ⟨?_, by kernel_rfl, by kernel_rfl, by kernel_rfl, fun _ _ _ h => h, Or.inl ⟨by rfl, ?_⟩, by assumption, ?_⟩
  rotate_left 1
  · (intro w9 hSw; (try dsimp only at hSw); go_simp; try (with_reducible rfl))
  try simp only [Act.put, List.setIfInBounds_toArray, List.set_cons_zero, List.set_cons_succ]
  refine wpAnyH_take2 (i := 6) (by simp only [List.getElem?_toArray, List.getElem?_cons_succ, List.getElem?_cons_zero]; first | done | exact rfl) ⟨?_, by kernel_rfl, by kernel_rfl, by kernel_rfl, fun _ _ _ h => h, Or.inl ⟨by rfl, ?_⟩, by assumption, ?_⟩
  rotate_left 1
  · (intro w9 hSw; (try dsimp only at hSw); go_simp; try (with_reducible rfl))
  try simp only [Act.put, List.setIfInBounds_toArray, List.set_cons_zero, List.set_cons_succ]
  refine wpAnyH_take2 (i := 7) (by simp only [List.getElem?_toArray, List.getElem?_cons_succ, List.getElem?_cons_zero]; first | done | exact rfl) ⟨?_, by kernel_rfl, by kernel_rfl, by kernel_rfl, fun _ _ _ h => h, Or.inl ⟨by rfl, ?_⟩, by assumption, ?_⟩
  rotate_left 1
  · (intro w9 hSw; (try dsimp only at hSw); go_simp; try (with_reducible rfl))
  try simp only [Act.put, List.setIfInBounds_toArray, List.set_cons_zero, List.set_cons_succ]
  refine wpAnyH_take2 (i := 8) (by simp only [List.getElem?_toArray, List.getElem?_cons_succ, List.getElem?_cons_zero]; first | done | exact rfl) ⟨?_, by kernel_rfl, by kernel_rfl, by kernel_rfl, fun _ _ _ h => h, Or.inl ⟨by rfl, ?_⟩, by assumption, ?_⟩
  rotate_left 1
  · (intro w9 hSw; (try dsimp only at hSw); go_simp; try (with_reducible rfl))
  try simp only [Act.put, List.setIfInBounds_toArray, List.set_cons_zero, List.set_cons_succ]
  refine wpAnyH_take2 (i := 9) (by simp only [List.getElem?_toArray, List.getElem?_cons_succ, List.getElem?_cons_zero]; first | done | exact rfl) ⟨?_, by kernel_rfl, by kernel_rfl, by kernel_rfl, fun _ _ _ h => h, Or.inl ⟨by rfl, ?_⟩, by assumption, ?_⟩
  rotate_left 1
  · (intro w9 hSw; (try dsimp only at hSw); go_simp; try (with_reducible rfl))
  try simp only [Act.put, List.setIfInBounds_toArray, List.set_cons_zero, List.set_cons_succ]
  refine wpAnyH_take2 (i := 10) (by simp only [List.getElem?_toArray, List.getElem?_cons_succ, List.getElem?_cons_zero]; first | done | exact rfl) ⟨?_, by kernel_rfl, by kernel_rfl, by kernel_rfl, fun _ _ _ h => h, Or.inl ⟨by rfl, ?_⟩, by assumption, ?_⟩
  rotate_left 1
  · (intro w9 hSw; (try dsimp only at hSw); go_simp; try (with_reducible rfl))
  try simp only [Act.put, List.setIfInBounds_toArray, List.set_cons_zero, List.set_cons_succ]
  refine wpAnyH_take2 (i := 11) (by simp only [List.getElem?_toArray, List.getElem?_cons_succ, List.getElem?_cons_zero]; first | done | exact rfl) ⟨?_, by kernel_rfl, by kernel_rfl, by kernel_rfl, fun _ _ _ h => h, Or.inl ⟨by rfl, ?_⟩, by assumption, ?_⟩
  rotate_left 1
  · (intro w9 hSw; (try dsimp only at hSw); go_simp; try (with_reducible rfl))
  try simp only [Act.put, List.setIfInBounds_toArray, List.set_cons_zero, List.set_cons_succ]
  refine wpAnyH_take2 (i := 12) (by simp only [List.getElem?_toArray, List.getElem?_cons_succ, List.getElem?_cons_zero]; first | done | exact rfl) ⟨?_, by kernel_rfl, by kernel_rfl, by kernel_rfl, fun _ _ _ h => h, Or.inl ⟨by rfl, ?_⟩, by assumption, ?_⟩
  rotate_left 1
  · (intro w9 hSw; (try dsimp only at hSw); go_simp; try (with_reducible rfl))
  try simp only [Act.put, List.setIfInBounds_toArray, List.set_cons_zero, List.set_cons_succ]
  refine wpAnyH_take2 (i := 13) (by simp only [List.getElem?_toArray, List.getElem?_cons_succ, List.getElem?_cons_zero]; first | done | exact rfl) ⟨?_, by kernel_rfl, by kernel_rfl, by kernel_rfl, fun _ _ _ h => h, Or.inl ⟨by rfl, ?_⟩, by assumption, ?_⟩
  rotate_left 1
  · (intro w9 hSw; (try dsimp only at hSw); go_simp; try (with_reducible rfl))
  try simp only [Act.put, List.setIfInBounds_toArray, List.set_cons_zero, List.set_cons_succ]
  refine wpAnyH_take2 (i := 14) (by simp only [List.getElem?_toArray, List.getElem?_cons_succ, List.getElem?_cons_zero]; first | done | exact rfl) ⟨?_, by kernel_rfl, by kernel_rfl, by kernel_rfl, fun _ _ _ h => h, Or.inl ⟨by rfl, ?_⟩, by assumption, ?_⟩
  rotate_left 1
  · (intro w9 hSw; (try dsimp only at hSw); go_simp; try (with_reducible rfl))
  try simp only [Act.put, List.setIfInBounds_toArray, List.set_cons_zero, List.set_cons_succ]
  refine wpAnyH_take2 (i := 15) (by simp only [List.getElem?_toArray, List.getElem?_cons_succ, List.getElem?_cons_zero]; first | done | exact rfl) ⟨?_, by kernel_rfl, by kernel_rfl, by kernel_rfl, fun _ _ _ h => h, Or.inl ⟨by rfl, ?_⟩, by assumption, ?_⟩
  rotate_left 1
  · (intro w9 hSw; (try dsimp only at hSw); go_simp; try (with_reducible rfl))
  try simp only [Act.put, List.setIfInBounds_toArray, List.set_cons_zero, List.set_cons_succ]
  refine wpAnyH_take2 (i := 16) (by simp only [List.getElem?_toArray, List.getElem?_cons_succ, List.getElem?_cons_zero]; first | done | exact rfl) ⟨?_, by kernel_rfl, by kernel_rfl, by kernel_rfl, fun _ _ _ h => h, Or.inl ⟨by rfl, ?_⟩, by assumption, ?_⟩
  rotate_left 1
  · (intro w9 hSw; (try dsimp only at hSw); go_simp; try (with_reducible rfl))
  try simp only [Act.put, List.setIfInBounds_toArray, List.set_cons_zero, List.set_cons_succ]
  refine wpAnyH_ready (rs := [17]) (by kernel_rfl) (by simp) ?_
  refine AllReadyH.cons2 (by simp only [List.getElem?_toArray, List.getElem?_cons_succ, List.getElem?_cons_zero]; first | done | exact rfl) (fun K hK => ?_)
  rw [if_pos (by rfl)]
  go_simp
  refine hK.out _ _ (by exact HQ.out _ (((HB.out _).drew).alloc (by simp) _)) (fun hHeld => ?_)
  clear hK K
  try simp only [Act.put, List.setIfInBounds_toArray, List.set_cons_zero, List.set_cons_succ]
  refine wpAnyH_ready (rs := [18]) (by kernel_rfl) (by simp) ?_
  refine AllReadyH.cons2 (by simp only [List.getElem?_toArray, List.getElem?_cons_succ, List.getElem?_cons_zero]; first | done | exact rfl) (fun K hK => ?_)
  refine step_store_row rfl 24 (.tmp 4) (.tmp 26) rfl (w.heap.size + 1) #[I64 x0, I64 x1, I64 x2, I64 x3, .slice none 0 0, I64 0, .bool false] rfl rfl 24 #[.int .i64 0, .int .i64 0, .int .i64 0, .int .i64 0, .slice none 0 0, .int .i64 0, .bool false] (by exact Blk.new' (g := w.heap.size + 1) _ (by simp) rfl) (by kernel_rfl) rfl (cmd_one _ _ _ _ _ _ _ _ _) ?_
  refine hK.out _ _ (by exact HQ.out _ (Below.setRow (((HB.out _).drew).alloc (by simp) _) (by omega) _)) (fun hHeld => ?_)
  clear hK K
  try simp only [Act.put, List.setIfInBounds_toArray, List.set_cons_zero, List.set_cons_succ]
  refine wpAnyH_done (by kernel_rfl) ?_ _
  refine NoPanic.normal ?_
  clear v0 v1 v2 v3 hHeld p0 p1 p2 p3 c0 c1 c2 c3
  have HW := Lib.hid (Below.setRow (g := w.heap.size + 1) (((HB.out (.cells #[.int .i64 0, .int .i64 0, .int .i64 0, .int .i64 0, .slice none 0 0, .int .i64 0, .bool false] 24)).alloc (by simp) (.cells #[.int .i64 0, .int .i64 0, .int .i64 0, .int .i64 0, .slice none 0 0, .int .i64 0, .bool false] 24)).drew) (by omega) #[I64 x0, I64 x1, I64 x2, I64 x3, .slice none 0 0, I64 0, .bool false])
  have hB0 : Blk (World.setRow ((w.alloc (.cells #[.int .i64 0, .int .i64 0, .int .i64 0, .int .i64 0, .slice none 0 0, .int .i64 0, .bool false] 24)).alloc (.cells #[.int .i64 0, .int .i64 0, .int .i64 0, .int .i64 0, .slice none 0 0, .int .i64 0, .bool false] 24)).drew (w.heap.size + 1) #[I64 x0, I64 x1, I64 x2, I64 x3, .slice none 0 0, I64 0, .bool false]) w.heap.size 24 #[.int .i64 0, .int .i64 0, .int .i64 0, .int .i64 0, .slice none 0 0, .int .i64 0, .bool false] :=
    Blk.setRow_far (((Blk.new w _ _).alloc _).drew) (by omega) _
  have hB1 : Blk (World.setRow ((w.alloc (.cells #[.int .i64 0, .int .i64 0, .int .i64 0, .int .i64 0, .slice none 0 0, .int .i64 0, .bool false] 24)).alloc (.cells #[.int .i64 0, .int .i64 0, .int .i64 0, .int .i64 0, .slice none 0 0, .int .i64 0, .bool false] 24)).drew (w.heap.size + 1) #[I64 x0, I64 x1, I64 x2, I64 x3, .slice none 0 0, I64 0, .bool false]) (w.heap.size + 1) 24 #[I64 x0, I64 x1, I64 x2, I64 x3, .slice none 0 0, I64 0, .bool false] :=
    Blk.setRow ((Blk.new' (g := w.heap.size + 1) (w.alloc _) (by simp) rfl).drew) _
  have HB0 := Lib.hid hB0
  have HB1 := Lib.hid hB1
  clear hB0 hB1 HQ
  go_wp2_with fail
  all_goals
    go_at_call 45
    refine (HBody.out (w.heap.size + 1) _ _ _ (by first | exact Byt.more (HD.out.below HW.out) (Nat.le_succ _) | exact ⟨HD.out.1, by omega, fun hn => absurd hn (by rw [length_bcells, HD.out.1]; omega)⟩) (by omega) (by exact HB1.out)).mono ?_
    rintro e w5 ⟨rfl, hb5, hS⟩
    have hB0 := Lib.hid (Blk.below HB0.out hb5 (Nat.lt_succ_self _))
    have hW5 := HW.out.trans (hb5.mono (Nat.le_succ _))
    have HS := Lib.hid hS
    clear hS HB0 HB1 HD HW HB
    by_cases her : er = 0
    · subst her
      obtain ⟨A5, c5, hb1, ho⟩ := HS.out rfl
      have hee : ee = z := by rw [HE.out, if_neg (fun e => e rfl)]
      have HEE := Lib.hid hee
      have HB1 := Lib.hid hb1
      have HO := Lib.hid ho
      clear HS hb1 ho hee HBody
      go_wp2_with ((with_reducible show wpList _ _ _ (Oper.mk _ (Op.load 24 (Operand.tmp 4)) _ _ _ _ :: _) _ _); refine wpList_load_row rfl 24 (.tmp 4) rfl (w.heap.size + 1) rfl 24 _ (0, 0) _ HB1.out Try.underlying24 rfl (by kernel_rfl) ?_)
      go_at_call 14
      refine (HCk.out _ _ _).mono ?_
      rintro e w6 ⟨rfl, hb6⟩
      have HB0 := Lib.hid (Blk.below hB0.out hb6 hB0.out.lt)
      have HB6 := Lib.hid (Blk.below HB1.out hb6 HB1.out.lt)
      have HO6 := Lib.hid (HO.out.below hb6)
      have hW6 := hW5.trans (hb6.mono hW5.size)
      clear HCk hB0 HB1 HO hb5 hW5 hb6
      by_cases hz : z = 0
      · subst hz
        go_wp2_with (first
          | ((with_reducible show wpList _ _ _ (Oper.mk _ (Op.load 24 (Operand.tmp 4)) _ _ _ _ :: _) _ _); refine wpList_load_row rfl 24 (.tmp 4) rfl (w.heap.size + 1) rfl 24 _ (0, 0) _ HB6.out Try.underlying24 rfl (by kernel_rfl) ?_)
          | ((with_reducible show wpList _ _ _ (Oper.mk _ (Op.store 24 (Operand.tmp 2) (Operand.tmp 38)) _ _ _ _ :: _) _ _); refine wpList_store_row rfl 24 (.tmp 2) (.tmp 38) rfl w.heap.size #[I64 x0, I64 x1, I64 x2, I64 x3, .slice A5 D.length c5, I64 (L : Int), .bool G] rfl rfl 24 _ HB0.out (by kernel_rfl) rfl (cmd_one _ _ _ _ _ _ _ _ _) ?_))
        refine bodyPost_ret (results_row_tmp rfl _ _ w.heap.size 24 _ (0, 0) _ rfl (by exact HB0.out.setRow _) Try.underlying24 rfl (by kernel_rfl)) rfl ⟨by exact Below.setRow hW6 (Nat.le_refl _) _, .inr ⟨HEE.out, A5, c5, rfl, ?_⟩⟩
        exact (HO6.out.setRow_ne HB0.out (by decide) _).mono (by omega)
      · have hz2 : (z != 0) = true := bne_iff_ne.2 hz
        go_wp2_with ((with_reducible show wpList _ _ _ (Oper.mk _ (Op.store 24 (Operand.tmp 2) (Operand.tmp 36)) _ _ _ _ :: _) _ _); refine wpList_store_row rfl 24 (.tmp 2) (.tmp 36) rfl w.heap.size #[I64 0, I64 0, I64 0, I64 0, .slice none 0 0, I64 0, .bool false] rfl rfl 24 _ HB0.out (by kernel_rfl) rfl (cmd_one _ _ _ _ _ _ _ _ _) ?_)
        refine bodyPost_ret (results_row_tmp rfl _ _ w.heap.size 24 _ (0, 0) _ rfl (by exact HB0.out.setRow _) Try.underlying24 rfl (by kernel_rfl)) rfl ⟨by exact Below.setRow hW6 (Nat.le_refl _) _, .inl ?_⟩
        rw [HEE.out]
        exact ⟨hz, rfl⟩
    · have her2 : (er != 0) = true := bne_iff_ne.2 her
      have hee : ee = er := by rw [HE.out, if_pos her]
      have HEE := Lib.hid hee
      clear HE hee
      go_wp2_with ((with_reducible show wpList _ _ _ (Oper.mk _ (Op.store 24 (Operand.tmp 2) (Operand.tmp 36)) _ _ _ _ :: _) _ _); refine wpList_store_row rfl 24 (.tmp 2) (.tmp 36) rfl w.heap.size #[I64 0, I64 0, I64 0, I64 0, .slice none 0 0, I64 0, .bool false] rfl rfl 24 _ hB0.out (by kernel_rfl) rfl (cmd_one _ _ _ _ _ _ _ _ _) ?_)
      refine bodyPost_ret (results_row_tmp rfl _ _ w.heap.size 24 _ (0, 0) _ rfl (by exact hB0.out.setRow _) Try.underlying24 rfl (by kernel_rfl)) rfl ⟨by exact Below.setRow hW5 (Nat.le_refl _) _, .inl ?_⟩
      rw [HEE.out]
      exact ⟨her, rfl⟩
end Go.Proofs.Ytapfiapjefnjjaa
