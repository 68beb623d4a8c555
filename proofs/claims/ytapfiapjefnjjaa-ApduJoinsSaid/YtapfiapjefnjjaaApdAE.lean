/-
  The walk of the law's 'same': two lists of commands.
-/
import Derived.Test.YtapfiapjefnjjaaApdQ
import Derived.Test.YtapfiapjefnjjaaApdN
import Derived.Test.YtapfiapjefnjjaaApdI
namespace Go.Proofs.Ytapfiapjefnjjaa
set_option linter.unusedSimpArgs false
open Go.RowKit

theorem ccells_get (vs : List CV) (k : Nat) (h : k < vs.length) (i : Nat) (hi : i < 7) : (ccells vs)[k * 7 + i]? = (vs[k]).cells[i]? := by
  induction vs generalizing k with
  | nil => simp at h
  | cons x l ih =>
    have hcc : ccells (x :: l) = x.cells ++ ccells l := by rw [show x :: l = [x] ++ l from rfl, ccells_append, ccells_one]
    rw [hcc]
    have hx : x.cells.length = 7 := rfl
    cases k with
    | zero => rw [List.getElem?_append_left (by omega)]; simp
    | succ k =>
      rw [List.getElem?_append_right (by omega), hx, show (k + 1) * 7 + i - 7 = k * 7 + i by omega, ih k (by simpa using h)]
      simp
theorem rangeAt_below {w u : World} {B b o : Nat} {l : List Value} (h : w.rangeAt b o l) (hb : Below B w u) (hlt : b < B) : u.rangeAt b o l := fun j v hv => (hb.cell (p := ⟨b, o + j, none⟩) hlt).trans (h j v hv)
theorem cells7o {u : World} {b o : Nat} {a0 a1 a2 a3 a4 a5 a6 : Value} (h : u.rangeAt b o [a0, a1, a2, a3, a4, a5, a6]) :
    u.cell? ⟨b, o, none⟩ = some a0 ∧ u.cell? ⟨b, o + 1, none⟩ = some a1 ∧ u.cell? ⟨b, o + 2, none⟩ = some a2 ∧ u.cell? ⟨b, o + 3, none⟩ = some a3 ∧ u.cell? ⟨b, o + 4, none⟩ = some a4 ∧ u.cell? ⟨b, o + 5, none⟩ = some a5 ∧ u.cell? ⟨b, o + 6, none⟩ = some a6 :=
  ⟨h 0 _ rfl, h 1 _ rfl, h 2 _ rfl, h 3 _ rfl, h 4 _ rfl, h 5 _ rfl, h 6 _ rfl⟩
theorem Cmds.at_ {w : World} {B : Nat} {A : Option Addr} {vs : List CV} (h : Cmds w B A vs) {k : Nat} (hk : k < vs.length) :
    ∃ b o, A = some ⟨b, o, none⟩ ∧ b < B ∧ w.rangeAt b (o + k * 7) vs[k].cells ∧ Byt w B vs[k].d.a vs[k].d.n vs[k].d.c vs[k].d.bs := by
  have hl := length_ccells vs
  obtain ⟨b, o, e, hb, hc⟩ := h.1 (by omega)
  refine ⟨b, o, e, hb, fun j v hv => ?_, h.2 _ (List.getElem_mem hk)⟩
  have hj : j < 7 := by
    rcases Nat.lt_or_ge j 7 with h7 | h7
    · exact h7
    · rw [List.getElem?_eq_none (by show 7 ≤ j; exact h7)] at hv; cases hv
  rw [← ccells_get vs k hk j hj] at hv
  rw [Nat.add_assoc, hc (k * 7 + j) (by omega)]
  exact hv

set_option maxRecDepth 100000 in
set_option maxHeartbeats 8000000 in
theorem law04_same (A A' : Option Addr) (n c c' : Nat) (vs vs' : List CV) (w : World) (h : Cmds w w.heap.size A vs) (h' : Cmds w w.heap.size A' vs') (hn : vs.length = n) (hm : n ≤ 1000000) (he : vs.map CV.cmd = vs'.map CV.cmd) (hsz : ∀ v ∈ vs, v.d.n ≤ 1000000) :
    Calls Try.prog 36 #[.slice A n c, .slice A' n c'] w fun e w' => e = .returned (.bool true) ∧ Below w.heap.size w w' := by
  have hl := Lib.hid hn
  have hl' : Hid (vs'.length = n) := by show _ = _; have := congrArg List.length he; rw [List.length_map, List.length_map] at this; omega
  have HE := Lib.hid he
  clear hn he
  go_enter Try.func36, Try.ntmps36
  go_wp2_with fail
  go_loopw [5] (fun i wr => ∃ k : Nat, k ≤ n ∧ i = .int .i64 k ∧ Below w.heap.size w wr) (fun i _ => n - (intOf i).toNat)
  case atStart => exact ⟨0, by omega, rfl, Below.refl _ _⟩
  case round =>
    obtain ⟨k, hk, rfl, hbw⟩ := hrel
    by_cases hlt : k < n
    · have hk1 : k < vs.length := by rw [hl.out]; exact hlt
      have hk2 : k < vs'.length := by rw [hl'.out]; exact hlt
      obtain ⟨b1, o1, rfl, hb1, hr1, hy1⟩ := (h.below hbw).at_ hk1
      obtain ⟨b2, o2, rfl, hb2, hr2, hy2⟩ := (h'.below hbw).at_ hk2
      have hcm : vs[k].cmd = vs'[k].cmd := by
        have := congrArg (fun l => l[k]?) HE.out
        simp only [List.getElem?_map, List.getElem?_eq_getElem hk1, List.getElem?_eq_getElem hk2, Option.map_some, Option.some.injEq] at this
        exact this
      have hz := hsz _ (List.getElem_mem hk1)
      generalize vs[k] = x at *
      generalize vs'[k] = y at *
      obtain ⟨x0, x1, x2, x3, ⟨xa, xn, xc, xb⟩, x5, x6⟩ := x
      obtain ⟨y0, y1, y2, y3, ⟨ya, yn, yc, yb⟩, y5, y6⟩ := y
      simp only [CV.cmd, Apd.Cmd.mk.injEq] at hcm
      obtain ⟨rfl, rfl, rfl, rfl, rfl, rfl, rfl⟩ := hcm
      simp only at hy1 hy2 hz
      have hxn := hy1.1
      have hyn := hy2.1
      have p0 : (0 : Int) ≤ (k : Int) := by omega
      have p1 : (k : Int) < (n : Int) := by omega
      have HS := Lib.hid (fun (u : World) (hu : Below wr.heap.size wr u) => (⟨cells7o (rangeAt_below hr1 hu (by have := hbw.size; omega)), cells7o (rangeAt_below hr2 hu (by have := hbw.size; omega))⟩ : (u.cell? ⟨b1, o1 + k * 7, none⟩ = some (I64 x0) ∧ u.cell? ⟨b1, o1 + k * 7 + 1, none⟩ = some (I64 x1) ∧ u.cell? ⟨b1, o1 + k * 7 + 2, none⟩ = some (I64 x2) ∧ u.cell? ⟨b1, o1 + k * 7 + 3, none⟩ = some (I64 x3) ∧ u.cell? ⟨b1, o1 + k * 7 + 4, none⟩ = some (.slice xa xn xc) ∧ u.cell? ⟨b1, o1 + k * 7 + 5, none⟩ = some (I64 x5) ∧ u.cell? ⟨b1, o1 + k * 7 + 6, none⟩ = some (.bool x6)) ∧ (u.cell? ⟨b2, o2 + k * 7, none⟩ = some (I64 x0) ∧ u.cell? ⟨b2, o2 + k * 7 + 1, none⟩ = some (I64 x1) ∧ u.cell? ⟨b2, o2 + k * 7 + 2, none⟩ = some (I64 x2) ∧ u.cell? ⟨b2, o2 + k * 7 + 3, none⟩ = some (I64 x3) ∧ u.cell? ⟨b2, o2 + k * 7 + 4, none⟩ = some (.slice ya yn yc) ∧ u.cell? ⟨b2, o2 + k * 7 + 5, none⟩ = some (I64 x5) ∧ u.cell? ⟨b2, o2 + k * 7 + 6, none⟩ = some (.bool x6))))
      have HC := Lib.hid (fun u a b => ref04_Same x0 x1 x2 x3 xa xn xc xb x5 x6 x0 x1 x2 x3 ya yn yc xb x5 x6 u a b (by omega) (by omega))
      have Y1 := Lib.hid ((hy1.more hbw.size).after (Below.drew (Below.refl wr.heap.size wr)))
      have Y2 := Lib.hid ((hy2.more hbw.size).after (Below.drew (Below.refl wr.heap.size wr)))
      clear hr1 hr2 hy1 hy2 hxn hyn
      go_upto_region 6 with fail
      refine wp_region_noPanic ?_
      refine wp_region_held_drew (S := fun u => (u.cell? ⟨b1, o1 + k * 7, none⟩ = some (I64 x0) ∧ u.cell? ⟨b1, o1 + k * 7 + 1, none⟩ = some (I64 x1) ∧ u.cell? ⟨b1, o1 + k * 7 + 2, none⟩ = some (I64 x2) ∧ u.cell? ⟨b1, o1 + k * 7 + 3, none⟩ = some (I64 x3) ∧ u.cell? ⟨b1, o1 + k * 7 + 4, none⟩ = some (.slice xa xn xc) ∧ u.cell? ⟨b1, o1 + k * 7 + 5, none⟩ = some (I64 x5) ∧ u.cell? ⟨b1, o1 + k * 7 + 6, none⟩ = some (.bool x6)) ∧ (u.cell? ⟨b2, o2 + k * 7, none⟩ = some (I64 x0) ∧ u.cell? ⟨b2, o2 + k * 7 + 1, none⟩ = some (I64 x1) ∧ u.cell? ⟨b2, o2 + k * 7 + 2, none⟩ = some (I64 x2) ∧ u.cell? ⟨b2, o2 + k * 7 + 3, none⟩ = some (I64 x3) ∧ u.cell? ⟨b2, o2 + k * 7 + 4, none⟩ = some (.slice ya yn yc) ∧ u.cell? ⟨b2, o2 + k * 7 + 5, none⟩ = some (I64 x5) ∧ u.cell? ⟨b2, o2 + k * 7 + 6, none⟩ = some (.bool x6))) (by kernel_rfl) (by exact HS.out _ (Below.drew (Below.refl _ _))) (fun hHeld => ?_)
      refine wpAnyH_take2 (i := 0) (by simp only [List.getElem?_toArray, List.getElem?_cons_succ, List.getElem?_cons_zero]; first | done | exact rfl) ⟨?_, by kernel_rfl, by kernel_rfl, by kernel_rfl, fun _ _ _ h => h, Or.inl ⟨by rfl, ?_⟩, by assumption, ?_⟩
      rotate_left 1
      · (intro w9 hSw; (try dsimp only at hSw); go_simp; try (with_reducible rfl))
      try simp only [Act.put, List.setIfInBounds_toArray, List.set_cons_zero, List.set_cons_succ]
      refine wpAnyH_take2 (i := 1) (by simp only [List.getElem?_toArray, List.getElem?_cons_succ, List.getElem?_cons_zero]; first | done | exact rfl) ⟨?_, by kernel_rfl, by kernel_rfl, by kernel_rfl, fun _ _ _ h => h, Or.inl ⟨by rfl, ?_⟩, by assumption, ?_⟩
      rotate_left 1
      · (intro w9 hSw; (try dsimp only at hSw); go_simp; try (with_reducible rfl))
      try simp only [Act.put, List.setIfInBounds_toArray, List.set_cons_zero, List.set_cons_succ]
      refine wpAnyH_take2 (i := 2) (by simp only [List.getElem?_toArray, List.getElem?_cons_succ, List.getElem?_cons_zero]; first | done | exact rfl) ⟨?_, by kernel_rfl, by kernel_rfl, by kernel_rfl, fun _ _ _ h => h, Or.inl ⟨by rfl, ?_⟩, by assumption, ?_⟩
      rotate_left 1
      · (intro w9 hSw; (try dsimp only at hSw); go_simp; try (with_reducible rfl))
      try simp only [Act.put, List.setIfInBounds_toArray, List.set_cons_zero, List.set_cons_succ]
      refine wpAnyH_take2 (i := 3) (by simp only [List.getElem?_toArray, List.getElem?_cons_succ, List.getElem?_cons_zero]; first | done | exact rfl) ⟨?_, by kernel_rfl, by kernel_rfl, by kernel_rfl, fun _ _ _ h => h, Or.inl ⟨by rfl, ?_⟩, by assumption, ?_⟩
      rotate_left 1
      · (intro w9 hSw; (try dsimp only at hSw); go_simp; try (with_reducible rfl))
      try simp only [Act.put, List.setIfInBounds_toArray, List.set_cons_zero, List.set_cons_succ]
      refine wpAnyH_take2 (i := 4) (by simp only [List.getElem?_toArray, List.getElem?_cons_succ, List.getElem?_cons_zero]; first | done | exact rfl) ⟨?_, by kernel_rfl, by kernel_rfl, by kernel_rfl, fun _ _ _ h => h, Or.inl ⟨by rfl, ?_⟩, by assumption, ?_⟩
      rotate_left 1
      · (intro w9 hSw; (try dsimp only at hSw); go_simp; try (with_reducible rfl))
      try simp only [Act.put, List.setIfInBounds_toArray, List.set_cons_zero, List.set_cons_succ]
      refine wpAnyH_take2 (i := 5) (by simp only [List.getElem?_toArray, List.getElem?_cons_succ, List.getElem?_cons_zero]; first | done | exact rfl) ⟨?_, by kernel_rfl, by kernel_rfl, by kernel_rfl, fun _ _ _ h => h, Or.inl ⟨by rfl, ?_⟩, by assumption, ?_⟩
      rotate_left 1
      · (intro w9 hSw; (try dsimp only at hSw); go_simp; try (with_reducible rfl))
      try simp only [Act.put, List.setIfInBounds_toArray, List.set_cons_zero, List.set_cons_succ]
      refine wpAnyH_take2 (i := 6) (by simp only [List.getElem?_toArray, List.getElem?_cons_succ, List.getElem?_cons_zero]; first | done | exact rfl) ⟨?_, by kernel_rfl, by kernel_rfl, by kernel_rfl, fun _ _ _ h => h, Or.inl ⟨by rfl, ?_⟩, by assumption, ?_⟩
      rotate_left 1
      · (intro w9 hSw; (try dsimp only at hSw); go_simp; try (with_reducible rfl))
      try simp only [Act.put, List.setIfInBounds_toArray, List.set_cons_zero, List.set_cons_succ]
      refine wpAnyH_take2 (i := 7) (by simp only [List.getElem?_toArray, List.getElem?_cons_succ, List.getElem?_cons_zero]; first | done | exact rfl) ⟨?_, by kernel_rfl, by kernel_rfl, by kernel_rfl, fun _ _ _ h => h, Or.inl ⟨by rfl, ?_⟩, by assumption, ?_⟩
      rotate_left 1
      · (intro w9 hSw; (try dsimp only at hSw); go_simp; try (with_reducible rfl))
      try simp only [Act.put, List.setIfInBounds_toArray, List.set_cons_zero, List.set_cons_succ]
      refine wpAnyH_ready (rs := [8]) (by kernel_rfl) (by simp) ?_
      refine AllReadyH.cons2 (by simp only [List.getElem?_toArray, List.getElem?_cons_succ, List.getElem?_cons_zero]; first | done | exact rfl) (fun K hK => ?_)
      rw [if_pos (by rfl)]
      go_simp
      go_at_call 25
      refine (HC.out _ Y1.out Y2.out).mono ?_
      rw [Apd.smB_refl]
      rintro e w5 ⟨rfl, b5⟩
      have b6 := (Below.drew (Below.refl wr.heap.size wr)).trans b5
      have hbw5 := hbw.trans (b6.mono hbw.size)
      have hs5 := HS.out _ b6
      go_wp2_with fail
      refine hK.out _ _ (by exact hs5) (fun hHeld => ?_)
      clear hK K
      try simp only [Act.put, List.setIfInBounds_toArray, List.set_cons_zero, List.set_cons_succ]
      refine wpAnyH_take2 (i := 9) (by simp only [List.getElem?_toArray, List.getElem?_cons_succ, List.getElem?_cons_zero]; first | done | exact rfl) ⟨?_, by kernel_rfl, by kernel_rfl, by kernel_rfl, fun _ _ _ h => h, Or.inl ⟨by rfl, ?_⟩, by assumption, ?_⟩
      rotate_left 1
      · (intro w9 hSw; (try dsimp only at hSw); go_simp; try (with_reducible rfl))
      try simp only [Act.put, List.setIfInBounds_toArray, List.set_cons_zero, List.set_cons_succ]
      refine wpAnyH_done (by kernel_rfl) ?_ _
      refine NoPanic.normal ?_
      clear hHeld hs5 HS HC Y1 Y2 b5 b6
      go_wp2_with fail
      go_roundw
      case rel => exact ⟨k + 1, by omega, by go_num, hbw5⟩
      case measure => simp [intOf]; omega
    · obtain rfl : k = n := by omega
      go_wp2_with fail
      go_ret
      exact ⟨rfl, hbw⟩
end Go.Proofs.Ytapfiapjefnjjaa
