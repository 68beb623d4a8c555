/-
  The walk of body.
-/
import Derived.Test.YtapfiapjefnjjaaApdD
import Derived.Test.YtapfiapjefnjjaaOctF
import Derived.Test.YtapfiapjefnjjaaReg
namespace Go.Proofs.Ytapfiapjefnjjaa
set_option linter.unusedSimpArgs false
open Go.RowKit

theorem own_ge {w : World} {base : Nat} {t : TypeId} {s : Nat} {A : Option Addr} {n c : Nat} {cs : List Value} (h : Own w base t s A n c cs) (hn : 0 < n) {g : Nat} (hg : g < base) : ∀ g', A.map (·.block) = some g' → g' ≠ g := by
  intro g' e
  obtain ⟨g2, cur, rfl, hb, _⟩ := h.2.2.2 (by have := h.2.1; omega)
  simp at e; omega

/-- What follows the header, behind the mark of a long command. -/
def Apd.rst (b : List UInt8) (wd : Nat) (long : Bool) : Int × List UInt8 × Nat :=
  if b.length < wd then (5, [], 0)
  else if long = true ∧ b.length = wd then (0, [], Apd.exn b)
  else if Oct.num (b.take wd) = 0 then (4, [], 0)
  else if (b.drop wd).length < Oct.num (b.take wd) then (5, [], 0)
  else if (b.drop wd).length ≠ Oct.num (b.take wd) ∧ (b.drop wd).length ≠ Oct.num (b.take wd) + wd then (4, [], 0)
  else (0, (b.drop wd).take (Oct.num (b.take wd)), Apd.exn ((b.drop wd).drop (Oct.num (b.take wd))))
/-- What follows the header. -/
def Apd.bdE (b : List UInt8) : Int := if b.length ≤ 1 then 0 else if b.getD 0 0 = 0 then (Apd.rst (b.drop 1) 2 true).1 else (Apd.rst b 1 false).1
def Apd.bdD (b : List UInt8) : List UInt8 := if b.length ≤ 1 then [] else if b.getD 0 0 = 0 then (Apd.rst (b.drop 1) 2 true).2.1 else (Apd.rst b 1 false).2.1
def Apd.bdL (b : List UInt8) : Nat := if b.length ≤ 1 then (if b.length = 1 then Apd.exn b else 0) else if b.getD 0 0 = 0 then (Apd.rst (b.drop 1) 2 true).2.2 else (Apd.rst b 1 false).2.2
def Apd.bdG (b : List UInt8) : Bool := if b.length ≤ 1 then false else b.getD 0 0 == 0

def BodyRes (w : World) (g : Nat) (cla ins p1 p2 : Int) (b : List UInt8) (e : Ending) (w' : World) : Prop :=
  e = .returned (.int .i64 (Apd.bdE b)) ∧ Below g w w' ∧ (Apd.bdE b = 0 → ∃ A c, Blk w' g 24 #[I64 cla, I64 ins, I64 p1, I64 p2, .slice A (Apd.bdD b).length c, I64 (Apd.bdL b : Int), .bool (Apd.bdG b)] ∧ Own w' (g + 1) 5 1 A (Apd.bdD b).length c (bcells (Apd.bdD b)))

set_option maxRecDepth 100000 in
set_option maxHeartbeats 40000000 in
theorem apdu_body (g : Nat) (A : Option Addr) (n c : Nat) (b : List UInt8) (cla ins p1 p2 : Int) (w : World) (h : Byt w g A n c b) (hn : n ≤ 1000000)
    (hb : Blk w g 24 #[I64 cla, I64 ins, I64 p1, I64 p2, .slice none 0 0, I64 0, .bool false]) :
    Calls Try.prog 45 #[.pointer (some ⟨g, 0, none⟩), .slice A n c] w (BodyRes w g cla ins p1 p2 b) := by
  have hl := h.1
  have hg := hb.lt
  have k5 := hb.cell 5
  have k6 := hb.cell 6
  have f5 := hb.frozen 5
  have f6 := hb.frozen 6
  by_cases h0 : n = 0
  · have e : Apd.bdE b = 0 ∧ Apd.bdD b = [] ∧ Apd.bdL b = 0 ∧ Apd.bdG b = false := by simp [Apd.bdE, Apd.bdD, Apd.bdL, Apd.bdG, hl, h0]
    obtain ⟨e1, e2, e3, e4⟩ := e
    unfold BodyRes
    rw [e1, e2, e3, e4]
    subst h0
    clear e1 e2 e3 e4 h
    go_enter Try.func45, Try.ntmps45
    go_wp2_with fail
    go_ret
    exact ⟨rfl, Below.refl _ _, fun _ => ⟨none, 0, hb, Own.none_ _ _ _ _ _⟩⟩
  by_cases h1 : n = 1
  · have e : Apd.bdE b = 0 ∧ Apd.bdD b = [] ∧ Apd.bdL b = Apd.exn b ∧ Apd.bdG b = false := by simp [Apd.bdE, Apd.bdD, Apd.bdL, Apd.bdG, hl, h1]
    obtain ⟨e1, e2, e3, e4⟩ := e
    unfold BodyRes
    rw [e1, e2, e3, e4]
    subst h1
    have hx := Lib.hid (apdu_expected A 1 c b w (h.more (Nat.le_of_lt hg)) (by omega))
    clear e1 e2 e3 e4 h h0
    go_enter Try.func45, Try.ntmps45
    go_wp2_with (go_at_call 58; refine hx.out.mono ?_; rintro e w1 ⟨rfl, rfl⟩)
    go_ret
    exact ⟨rfl, Below.setCell (p := ⟨g, 5, none⟩) (Below.refl g w) (Nat.le_refl _) _, fun _ => ⟨none, 0, hb.set 5 _, Own.none_ _ _ _ _ _⟩⟩
  have hn2 : 2 ≤ n := by omega
  obtain ⟨bb, o, rfl, hbb⟩ := h.at_ (by omega)
  have hc0 := (h.2.2).byte 0 (by omega)
  rw [Nat.add_zero] at hc0
  have i1 : ¬ (n : Int) = 0 := by omega
  have hnc := h.2.1
  by_cases hx0 : b.getD 0 0 = 0
  · obtain ⟨m, rfl⟩ : ∃ m, n = m + 1 := ⟨n - 1, by omega⟩
    have hE : Apd.bdE b = (Apd.rst (b.drop 1) 2 true).1 := by unfold Apd.bdE; rw [if_neg (by omega), if_pos hx0]
    have hD : Apd.bdD b = (Apd.rst (b.drop 1) 2 true).2.1 := by unfold Apd.bdD; rw [if_neg (by omega), if_pos hx0]
    have hL : Apd.bdL b = (Apd.rst (b.drop 1) 2 true).2.2 := by unfold Apd.bdL; rw [if_neg (by omega), if_pos hx0]
    have hG : Apd.bdG b = true := by unfold Apd.bdG; rw [if_neg (by omega), hx0]; rfl
    unfold BodyRes
    rw [hE, hD, hL, hG]
    have hb2 := hb.set 6 (.bool true)
    have hbw := Below.setCell (p := ⟨g, 6, none⟩) (Below.refl g w) (Nat.le_refl _) (.bool true)
    have hby := Byt.drop (h.below hbw) 1 (by omega)
    rw [Nat.add_sub_cancel] at hby
    rw [hx0] at hc0
    clear hE hD hL hG h hb hl
    generalize b.drop 1 = L at *
    go_enter Try.func45, Try.ntmps45
    go_upto_region 10 with fail
    clear k5 k6 f5 f6 hc0
    generalize w.setCell ⟨g, 6, none⟩ (.bool true) = w2 at *
    have hm := hby.1
    have hnc2 := hby.2.1
    have hg2 := hb2.lt
    have k5 := hb2.cell 5
    have k6 := hb2.cell 6
    have f5 := hb2.frozen 5
    by_cases hA : m < 2
    · have e : Apd.rst L 2 true = (5, [], 0) := by unfold Apd.rst; rw [if_pos (by omega)]
      have HE := Lib.hid e
      clear e hby
      go_wp2_with fail
      go_ret
      rw [HE.out]
      exact ⟨rfl, hbw, fun h => absurd h (by decide)⟩
    by_cases hB : m = 2
    · have e : Apd.rst L 2 true = (0, [], Apd.exn L) := by unfold Apd.rst; rw [if_neg (by omega), if_pos ⟨rfl, by omega⟩]
      have HE := Lib.hid e
      subst hB
      have hx := Lib.hid (apdu_expected _ 2 _ L w2 (hby.more (Nat.le_of_lt hg2)) (by omega))
      clear e hby hA
      go_wp2_with (go_at_call 58; refine hx.out.mono ?_; rintro e w1 ⟨rfl, rfl⟩)
      go_ret
      rw [HE.out]
      exact ⟨rfl, Below.setCell (p := ⟨g, 5, none⟩) hbw (Nat.le_refl _) _, fun _ => ⟨none, 0, hb2.set 5 _, Own.none_ _ _ _ _ _⟩⟩
    obtain ⟨r, rfl⟩ : ∃ r, m = 2 + r := ⟨m - 2, by omega⟩
    have c1 : ¬ L.length < 2 := by omega
    have c2 : ¬ (true = true ∧ L.length = 2) := by intro hh; omega
    have c3 : (L.drop 2).length = r := by rw [List.length_drop]; omega
    have hd := Byt.drop hby 2 (by omega)
    rw [Nat.add_sub_cancel_left] at hd
    have ht := Byt.take hby 2 (c - 1) (by omega) (by omega)
    have hGt := octets_Get _ 2 (c - 1) _ w2 (ht.more (Nat.le_of_lt hg2))
    rw [gt_small _ (by rw [ht.1]; omega)] at hGt
    have hbig : Oct.num (L.take 2) < 65536 := by
      have h1 : Oct.num (L.take 2) < 256 ^ (L.take 2).length := Oct.numK_lt _ _
      rw [ht.1] at h1
      exact Nat.lt_of_lt_of_le h1 (show 256 ^ 2 ≤ 65536 by decide)
    have HGT := Lib.hid hGt
    have HD := Lib.hid hd
    have j1 : ¬ ((2 + r : Nat) : Int) < 2 := by omega
    clear hGt hd ht hby
    generalize hy : Oct.num (L.take 2) = y at *
    have HY := Lib.hid hy
    clear hy
    by_cases hy0 : y = 0
    · have e : Apd.rst L 2 true = (4, [], 0) := by unfold Apd.rst; rw [if_neg c1, if_neg c2, HY.out, if_pos hy0]
      have HE := Lib.hid e
      subst hy0
      clear e c1 c2 c3 hA
      go_wp2_with (go_at_call 59; refine HGT.out.mono ?_; rintro e w1 ⟨rfl, rfl⟩)
      go_ret
      rw [HE.out]
      exact ⟨rfl, hbw, fun h => absurd h (by decide)⟩
    have j2 : ¬ (y : Int) = 0 := by omega
    by_cases hry : r < y
    · have e : Apd.rst L 2 true = (5, [], 0) := by unfold Apd.rst; rw [if_neg c1, if_neg c2, HY.out, if_neg hy0, c3, if_pos hry]
      have HE := Lib.hid e
      clear e c1 c2 c3 hA
      go_wp2_with (go_at_call 59; refine HGT.out.mono ?_; rintro e w1 ⟨rfl, rfl⟩)
      go_ret
      rw [HE.out]
      exact ⟨rfl, hbw, fun h => absurd h (by decide)⟩
    by_cases hq : r ≠ y ∧ r ≠ y + 2
    · have e : Apd.rst L 2 true = (4, [], 0) := by unfold Apd.rst; rw [if_neg c1, if_neg c2, HY.out, if_neg hy0, c3, if_neg hry, if_pos hq]
      have HE := Lib.hid e
      clear e c1 c2 c3 hA
      have q1 : ((r : Int) != (y : Int)) = true := by rw [bne_iff_ne]; omega
      have q2 : ((r : Int) != (y : Int) + 2) = true := by rw [bne_iff_ne]; omega
      go_wp2_with (go_at_call 59; refine HGT.out.mono ?_; rintro e w1 ⟨rfl, rfl⟩)
      go_ret
      rw [HE.out]
      exact ⟨rfl, hbw, fun h => absurd h (by decide)⟩
    have e : Apd.rst L 2 true = (0, (L.drop 2).take y, Apd.exn ((L.drop 2).drop y)) := by unfold Apd.rst; rw [if_neg c1, if_neg c2, HY.out, if_neg hy0, c3, if_neg hry, if_neg hq]
    have HE := Lib.hid e
    clear e
    have hq2 : y = r ∨ r = y + 2 := by omega
    have hda := Byt.take HD.out y ((c - 1) - 2) (by omega) (by omega)
    have hle := Byt.drop HD.out y (by omega)
    have HDA := Lib.hid (hda.more (Nat.le_of_lt hg2))
    have HLE := Lib.hid (hle.more (Nat.le_of_lt hg2))
    have k4 := hb2.cell 4
    have f4 := hb2.frozen 4
    have HB2 := Lib.hid hb2
    have HBW := Lib.hid hbw
    have hca : y ≤ (c - 1) - 2 := hda.2.1
    clear hda hle c1 c2 c3 hA hry hq HD hb2 hbw
    rcases hq2 with hq2 | hq2
    · subst hq2
      rw [Nat.sub_self] at HLE
      have HX0 := Lib.hid (fun (u : World) (A' : Option Addr) (c' : Nat) => apdu_expected A' 0 c' ((L.drop 2).drop y) u ⟨HLE.out.1, Nat.zero_le _, fun hn => absurd hn (by rw [length_bcells, HLE.out.1]; exact Nat.lt_irrefl 0)⟩ (Nat.zero_le 2))
      obtain ⟨cp, hcp⟩ : ∃ cp, (c - 1) - 2 = cp := ⟨_, rfl⟩
      clear HLE
      rw [hcp] at HDA hca
      have hcp2 : c - 3 = cp := by omega
      by_cases hcap : y = cp
      · subst hcap
        go_upto_region 23 with (go_at_call 59; refine HGT.out.mono ?_; rintro e w1 ⟨rfl, rfl⟩)
        clear k4 k5 k6 f4 f5
        refine wp_region_noPanic ?_
        refine wp_region_held_drew (S := fun _ => True) (by kernel_rfl) (trivial) (fun hHeld => ?_)
        refine wpAnyH_take2 (i := 0) (by simp only [List.getElem?_toArray, List.getElem?_cons_succ, List.getElem?_cons_zero]; first | done | exact rfl) ⟨?_, by kernel_rfl, by kernel_rfl, by kernel_rfl, fun _ _ _ h => h, Or.inl ⟨by rfl, ?_⟩, by assumption, ?_⟩
        rotate_left 1
        · (intro w9 hSw; (try dsimp only at hSw); go_simp; try (with_reducible rfl))
        try simp only [Act.put, List.setIfInBounds_toArray, List.set_cons_zero, List.set_cons_succ]
        refine wpAnyH_take2 (i := 1) (by simp only [List.getElem?_toArray, List.getElem?_cons_succ, List.getElem?_cons_zero]; first | done | exact rfl) ⟨?_, by kernel_rfl, by kernel_rfl, by kernel_rfl, fun _ _ _ h => h, Or.inl ⟨by rfl, ?_⟩, by assumption, ?_⟩
        rotate_left 1
        · (intro w9 hSw; (try dsimp only at hSw); go_simp; try (with_reducible rfl))
        try simp only [Act.put, List.setIfInBounds_toArray, List.set_cons_zero, List.set_cons_succ]
        refine wpAnyH_take2 (i := 2) (by simp only [List.getElem?_toArray, List.getElem?_cons_succ, List.getElem?_cons_zero]; first | done | exact rfl) ⟨?_, by kernel_rfl, by kernel_rfl, by kernel_rfl, fun _ _ _ h => h, Or.inl ⟨by rfl, ?_⟩, by assumption, ?_⟩
        rotate_left 1
        · (intro w9 hSw; (try dsimp only at hSw); go_simp; try (with_reducible rfl))
        try simp only [Act.put, List.setIfInBounds_toArray, List.set_cons_zero, List.set_cons_succ]
        refine wpAnyH_take2 (i := 3) (by simp only [List.getElem?_toArray, List.getElem?_cons_succ, List.getElem?_cons_zero]; first | done | exact rfl) ⟨?_, by kernel_rfl, by kernel_rfl, by kernel_rfl, fun _ _ _ h => h, Or.inl ⟨by rfl, ?_⟩, by assumption, ?_⟩
        rotate_left 1
        · (intro w9 hSw; (try dsimp only at hSw); go_simp; try (with_reducible rfl))
        try simp only [Act.put, List.setIfInBounds_toArray, List.set_cons_zero, List.set_cons_succ]
        refine wpAnyH_take2 (i := 4) (by simp only [List.getElem?_toArray, List.getElem?_cons_succ, List.getElem?_cons_zero]; first | done | exact rfl) ⟨?_, by kernel_rfl, by kernel_rfl, by kernel_rfl, fun _ _ _ h => h, Or.inl ⟨by rfl, ?_⟩, by assumption, ?_⟩
        rotate_left 1
        · (intro w9 hSw; (try dsimp only at hSw); go_simp; try (with_reducible rfl))
        try simp only [Act.put, List.setIfInBounds_toArray, List.set_cons_zero, List.set_cons_succ]
        refine wpAnyH_take2 (i := 6) (by simp only [List.getElem?_toArray, List.getElem?_cons_succ, List.getElem?_cons_zero]; first | done | exact rfl) ⟨?_, by kernel_rfl, by kernel_rfl, by kernel_rfl, fun _ _ _ h => h, Or.inl ⟨by rfl, ?_⟩, by assumption, ?_⟩
        rotate_left 1
        · (intro w9 hSw; (try dsimp only at hSw); go_simp; try (with_reducible rfl))
        try simp only [Act.put, List.setIfInBounds_toArray, List.set_cons_zero, List.set_cons_succ]
        refine wpAnyH_take2 (i := 7) (by simp only [List.getElem?_toArray, List.getElem?_cons_succ, List.getElem?_cons_zero]; first | done | exact rfl) ⟨?_, by kernel_rfl, by kernel_rfl, by kernel_rfl, fun _ _ _ h => h, Or.inl ⟨by rfl, ?_⟩, by assumption, ?_⟩
        rotate_left 1
        · (intro w9 hSw; (try dsimp only at hSw); go_simp; try (with_reducible rfl))
        try simp only [Act.put, List.setIfInBounds_toArray, List.set_cons_zero, List.set_cons_succ]
        refine wpAnyH_take2 (i := 8) (by simp only [List.getElem?_toArray, List.getElem?_cons_succ, List.getElem?_cons_zero]; first | done | exact rfl) ⟨?_, by kernel_rfl, by kernel_rfl, by kernel_rfl, fun _ _ _ h => h, Or.inl ⟨by rfl, ?_⟩, by assumption, ?_⟩
        rotate_left 1
        · (intro w9 hSw; (try dsimp only at hSw); go_simp; try (with_reducible rfl))
        try simp only [Act.put, List.setIfInBounds_toArray, List.set_cons_zero, List.set_cons_succ]
        refine wpAnyH_ready (rs := [5]) (by kernel_rfl) (by simp) ?_
        refine AllReadyH.cons2 (by simp only [List.getElem?_toArray, List.getElem?_cons_succ, List.getElem?_cons_zero]; first | done | exact rfl) (fun K hK => ?_)
        rw [if_pos (by rfl)]
        go_simp
        go_at_call 50
        refine (slices_Clone _ y y _ _ (by exact HDA.out) (by omega)).mono ?_
        rintro e w5 ⟨A5, c5, rfl, ho5, hb5⟩
        have hlen : ((L.drop 2).take y).length = y := HDA.out.1
        have B5 : Blk w5 g 24 _ := Blk.below (HB2.out.drew) hb5 (by exact hg2)
        have hbw5 := HBW.out.drew.trans (hb5.mono (Nat.le_of_lt (by exact hg2)))
        have k4 := B5.cell 4
        have k5 := B5.cell 5
        have f4 := B5.frozen 4
        have f5 := B5.frozen 5
        have HO5 := Lib.hid (own_ge ho5 (by omega) (show g < _ from hg2))
        have HOW := Lib.hid (ho5.mono (base' := g + 1) (by exact hg2))
        have HX := Lib.hid (HX0.out w5)
        have HB5 := Lib.hid B5
        clear ho5 hb5 B5
        go_wp2_with fail
        refine hK.out _ _ (trivial) (fun hHeld => ?_)
        clear hK K
        try simp only [Act.put, List.setIfInBounds_toArray, List.set_cons_zero, List.set_cons_succ]
        refine wpAnyH_ready (rs := [9]) (by kernel_rfl) (by simp) ?_
        refine AllReadyH.cons2 (by simp only [List.getElem?_toArray, List.getElem?_cons_succ, List.getElem?_cons_zero]; first | done | exact rfl) (fun K hK => ?_)
        rw [if_pos (by rfl)]
        go_simp
        go_at_call 58
        have HX2 := HX.out
        refine (HX2 _ _).mono ?_
        clear HX2
        rintro e w6 ⟨rfl, rfl⟩
        go_wp2_with fail
        refine hK.out _ _ (trivial) (fun hHeld => ?_)
        clear hK K
        try simp only [Act.put, List.setIfInBounds_toArray, List.set_cons_zero, List.set_cons_succ]
        refine wpAnyH_take2 (i := 10) (by simp only [List.getElem?_toArray, List.getElem?_cons_succ, List.getElem?_cons_zero]; first | done | exact rfl) ⟨?_, by kernel_rfl, by kernel_rfl, by kernel_rfl, fun _ _ _ h => h, Or.inl ⟨by rfl, ?_⟩, by assumption, ?_⟩
        rotate_left 1
        · (intro w9 hSw; (try dsimp only at hSw); go_simp; try (with_reducible rfl))
        try simp only [Act.put, List.setIfInBounds_toArray, List.set_cons_zero, List.set_cons_succ]
        refine wpAnyH_take2 (i := 11) (by simp only [List.getElem?_toArray, List.getElem?_cons_succ, List.getElem?_cons_zero]; first | done | exact rfl) ⟨?_, by kernel_rfl, by kernel_rfl, by kernel_rfl, fun _ _ _ h => h, Or.inl ⟨by rfl, ?_⟩, by assumption, ?_⟩
        rotate_left 1
        · (intro w9 hSw; (try dsimp only at hSw); go_simp; try (with_reducible rfl))
        try simp only [Act.put, List.setIfInBounds_toArray, List.set_cons_zero, List.set_cons_succ]
        refine wpAnyH_ready (rs := [12]) (by kernel_rfl) (by simp) ?_
        refine AllReadyH.cons2 (by simp only [List.getElem?_toArray, List.getElem?_cons_succ, List.getElem?_cons_zero]; first | done | exact rfl) (fun K hK => ?_)
        rw [if_pos (by rfl)]
        go_simp
        refine hK.out _ _ (trivial) (fun hHeld => ?_)
        clear hK K
        try simp only [Act.put, List.setIfInBounds_toArray, List.set_cons_zero, List.set_cons_succ]
        refine wpAnyH_take2 (i := 13) (by simp only [List.getElem?_toArray, List.getElem?_cons_succ, List.getElem?_cons_zero]; first | done | exact rfl) ⟨?_, by kernel_rfl, by kernel_rfl, by kernel_rfl, fun _ _ _ h => h, Or.inl ⟨by rfl, ?_⟩, by assumption, ?_⟩
        rotate_left 1
        · (intro w9 hSw; (try dsimp only at hSw); go_simp; try (with_reducible rfl))
        try simp only [Act.put, List.setIfInBounds_toArray, List.set_cons_zero, List.set_cons_succ]
        refine wpAnyH_take2 (i := 14) (by simp only [List.getElem?_toArray, List.getElem?_cons_succ, List.getElem?_cons_zero]; first | done | exact rfl) ⟨?_, by kernel_rfl, by kernel_rfl, by kernel_rfl, fun _ _ _ h => h, Or.inl ⟨by rfl, ?_⟩, by assumption, ?_⟩
        rotate_left 1
        · (intro w9 hSw; (try dsimp only at hSw); go_simp; try (with_reducible rfl))
        try simp only [Act.put, List.setIfInBounds_toArray, List.set_cons_zero, List.set_cons_succ]
        refine wpAnyH_ready (rs := [15]) (by kernel_rfl) (by simp) ?_
        refine AllReadyH.cons2 (by simp only [List.getElem?_toArray, List.getElem?_cons_succ, List.getElem?_cons_zero]; first | done | exact rfl) (fun K hK => ?_)
        rw [if_pos (by rfl)]
        go_simp
        refine hK.out _ _ (trivial) (fun hHeld => ?_)
        clear hK K
        try simp only [Act.put, List.setIfInBounds_toArray, List.set_cons_zero, List.set_cons_succ]
        refine wpAnyH_done (by kernel_rfl) ?_ _
        refine NoPanic.normal ?_
        go_wp2_with fail
        go_ret
        rw [HE.out]
        have F1 := (HB5.out.set 4 (.slice A5 y c5)).set 5 (.int .i64 (Apd.exn (L.drop (2 + y)) : Int))
        have F2 := Below.setCell (p := ⟨g, 5, none⟩) (Below.setCell (p := ⟨g, 4, none⟩) hbw5 (Nat.le_refl _) (.slice A5 y c5)) (Nat.le_refl _) (.int .i64 (Apd.exn (L.drop (2 + y)) : Int))
        have F3 := (HOW.out.setCell (p := ⟨g, 4, none⟩) HO5.out (.slice A5 y c5)).setCell (p := ⟨g, 5, none⟩) HO5.out (.int .i64 (Apd.exn (L.drop (2 + y)) : Int))
        have hdd : (L.drop 2).drop y = L.drop (2 + y) := by rw [List.drop_drop]
        clear HB5 HOW HO5 hbw5
        simp only [hdd, hlen]
        exact ⟨rfl, F2, fun _ => ⟨A5, c5, F1, F3⟩⟩
      · have hcap2 : ¬ cp = y := fun e => hcap e.symm
        go_upto_region 23 with (go_at_call 59; refine HGT.out.mono ?_; rintro e w1 ⟨rfl, rfl⟩)
        clear k4 k5 k6 f4 f5
        refine wp_region_noPanic ?_
        refine wp_region_held_drew (S := fun _ => True) (by kernel_rfl) (trivial) (fun hHeld => ?_)
        refine wpAnyH_take2 (i := 0) (by simp only [List.getElem?_toArray, List.getElem?_cons_succ, List.getElem?_cons_zero]; first | done | exact rfl) ⟨?_, by kernel_rfl, by kernel_rfl, by kernel_rfl, fun _ _ _ h => h, Or.inl ⟨by rfl, ?_⟩, by assumption, ?_⟩
        rotate_left 1
        · (intro w9 hSw; (try dsimp only at hSw); go_simp; try (with_reducible rfl))
        try simp only [Act.put, List.setIfInBounds_toArray, List.set_cons_zero, List.set_cons_succ]
        refine wpAnyH_take2 (i := 1) (by simp only [List.getElem?_toArray, List.getElem?_cons_succ, List.getElem?_cons_zero]; first | done | exact rfl) ⟨?_, by kernel_rfl, by kernel_rfl, by kernel_rfl, fun _ _ _ h => h, Or.inl ⟨by rfl, ?_⟩, by assumption, ?_⟩
        rotate_left 1
        · (intro w9 hSw; (try dsimp only at hSw); go_simp; try (with_reducible rfl))
        try simp only [Act.put, List.setIfInBounds_toArray, List.set_cons_zero, List.set_cons_succ]
        refine wpAnyH_take2 (i := 2) (by simp only [List.getElem?_toArray, List.getElem?_cons_succ, List.getElem?_cons_zero]; first | done | exact rfl) ⟨?_, by kernel_rfl, by kernel_rfl, by kernel_rfl, fun _ _ _ h => h, Or.inl ⟨by rfl, ?_⟩, by assumption, ?_⟩
        rotate_left 1
        · (intro w9 hSw; (try dsimp only at hSw); go_simp; try (with_reducible rfl))
        try simp only [Act.put, List.setIfInBounds_toArray, List.set_cons_zero, List.set_cons_succ]
        refine wpAnyH_take2 (i := 3) (by simp only [List.getElem?_toArray, List.getElem?_cons_succ, List.getElem?_cons_zero]; first | done | exact rfl) ⟨?_, by kernel_rfl, by kernel_rfl, by kernel_rfl, fun _ _ _ h => h, Or.inl ⟨by rfl, ?_⟩, by assumption, ?_⟩
        rotate_left 1
        · (intro w9 hSw; (try dsimp only at hSw); go_simp; try (with_reducible rfl))
        try simp only [Act.put, List.setIfInBounds_toArray, List.set_cons_zero, List.set_cons_succ]
        refine wpAnyH_take2 (i := 4) (by simp only [List.getElem?_toArray, List.getElem?_cons_succ, List.getElem?_cons_zero]; first | done | exact rfl) ⟨?_, by kernel_rfl, by kernel_rfl, by kernel_rfl, fun _ _ _ h => h, Or.inl ⟨by rfl, ?_⟩, by assumption, ?_⟩
        rotate_left 1
        · (intro w9 hSw; (try dsimp only at hSw); go_simp; try (with_reducible rfl))
        try simp only [Act.put, List.setIfInBounds_toArray, List.set_cons_zero, List.set_cons_succ]
        refine wpAnyH_take2 (i := 6) (by simp only [List.getElem?_toArray, List.getElem?_cons_succ, List.getElem?_cons_zero]; first | done | exact rfl) ⟨?_, by kernel_rfl, by kernel_rfl, by kernel_rfl, fun _ _ _ h => h, Or.inl ⟨by rfl, ?_⟩, by assumption, ?_⟩
        rotate_left 1
        · (intro w9 hSw; (try dsimp only at hSw); go_simp; try (with_reducible rfl))
        try simp only [Act.put, List.setIfInBounds_toArray, List.set_cons_zero, List.set_cons_succ]
        refine wpAnyH_take2 (i := 7) (by simp only [List.getElem?_toArray, List.getElem?_cons_succ, List.getElem?_cons_zero]; first | done | exact rfl) ⟨?_, by kernel_rfl, by kernel_rfl, by kernel_rfl, fun _ _ _ h => h, Or.inl ⟨by rfl, ?_⟩, by assumption, ?_⟩
        rotate_left 1
        · (intro w9 hSw; (try dsimp only at hSw); go_simp; try (with_reducible rfl))
        try simp only [Act.put, List.setIfInBounds_toArray, List.set_cons_zero, List.set_cons_succ]
        refine wpAnyH_take2 (i := 8) (by simp only [List.getElem?_toArray, List.getElem?_cons_succ, List.getElem?_cons_zero]; first | done | exact rfl) ⟨?_, by kernel_rfl, by kernel_rfl, by kernel_rfl, fun _ _ _ h => h, Or.inl ⟨by rfl, ?_⟩, by assumption, ?_⟩
        rotate_left 1
        · (intro w9 hSw; (try dsimp only at hSw); go_simp; try (with_reducible rfl))
        try simp only [Act.put, List.setIfInBounds_toArray, List.set_cons_zero, List.set_cons_succ]
        refine wpAnyH_ready (rs := [5]) (by kernel_rfl) (by simp) ?_
        refine AllReadyH.cons2 (by simp only [List.getElem?_toArray, List.getElem?_cons_succ, List.getElem?_cons_zero]; first | done | exact rfl) (fun K hK => ?_)
        rw [if_pos (by rfl)]
        go_simp
        go_at_call 50
        refine (slices_Clone _ y cp _ _ (by exact HDA.out) (by omega)).mono ?_
        rintro e w5 ⟨A5, c5, rfl, ho5, hb5⟩
        have hlen : ((L.drop 2).take y).length = y := HDA.out.1
        have B5 : Blk w5 g 24 _ := Blk.below (HB2.out.drew) hb5 (by exact hg2)
        have hbw5 := HBW.out.drew.trans (hb5.mono (Nat.le_of_lt (by exact hg2)))
        have k4 := B5.cell 4
        have k5 := B5.cell 5
        have f4 := B5.frozen 4
        have f5 := B5.frozen 5
        have HO5 := Lib.hid (own_ge ho5 (by omega) (show g < _ from hg2))
        have HOW := Lib.hid (ho5.mono (base' := g + 1) (by exact hg2))
        have HX := Lib.hid (HX0.out w5)
        have HB5 := Lib.hid B5
        clear ho5 hb5 B5
        go_wp2_with fail
        refine hK.out _ _ (trivial) (fun hHeld => ?_)
        clear hK K
        try simp only [Act.put, List.setIfInBounds_toArray, List.set_cons_zero, List.set_cons_succ]
        refine wpAnyH_ready (rs := [9]) (by kernel_rfl) (by simp) ?_
        refine AllReadyH.cons2 (by simp only [List.getElem?_toArray, List.getElem?_cons_succ, List.getElem?_cons_zero]; first | done | exact rfl) (fun K hK => ?_)
        rw [if_pos (by rfl)]
        go_simp
        go_at_call 58
        have HX2 := HX.out
        refine (HX2 _ _).mono ?_
        clear HX2
        rintro e w6 ⟨rfl, rfl⟩
        go_wp2_with fail
        refine hK.out _ _ (trivial) (fun hHeld => ?_)
        clear hK K
        try simp only [Act.put, List.setIfInBounds_toArray, List.set_cons_zero, List.set_cons_succ]
        refine wpAnyH_take2 (i := 10) (by simp only [List.getElem?_toArray, List.getElem?_cons_succ, List.getElem?_cons_zero]; first | done | exact rfl) ⟨?_, by kernel_rfl, by kernel_rfl, by kernel_rfl, fun _ _ _ h => h, Or.inl ⟨by rfl, ?_⟩, by assumption, ?_⟩
        rotate_left 1
        · (intro w9 hSw; (try dsimp only at hSw); go_simp; try (with_reducible rfl))
        try simp only [Act.put, List.setIfInBounds_toArray, List.set_cons_zero, List.set_cons_succ]
        refine wpAnyH_take2 (i := 11) (by simp only [List.getElem?_toArray, List.getElem?_cons_succ, List.getElem?_cons_zero]; first | done | exact rfl) ⟨?_, by kernel_rfl, by kernel_rfl, by kernel_rfl, fun _ _ _ h => h, Or.inl ⟨by rfl, ?_⟩, by assumption, ?_⟩
        rotate_left 1
        · (intro w9 hSw; (try dsimp only at hSw); go_simp; try (with_reducible rfl))
        try simp only [Act.put, List.setIfInBounds_toArray, List.set_cons_zero, List.set_cons_succ]
        refine wpAnyH_ready (rs := [12]) (by kernel_rfl) (by simp) ?_
        refine AllReadyH.cons2 (by simp only [List.getElem?_toArray, List.getElem?_cons_succ, List.getElem?_cons_zero]; first | done | exact rfl) (fun K hK => ?_)
        rw [if_pos (by rfl)]
        go_simp
        refine hK.out _ _ (trivial) (fun hHeld => ?_)
        clear hK K
        try simp only [Act.put, List.setIfInBounds_toArray, List.set_cons_zero, List.set_cons_succ]
        refine wpAnyH_take2 (i := 13) (by simp only [List.getElem?_toArray, List.getElem?_cons_succ, List.getElem?_cons_zero]; first | done | exact rfl) ⟨?_, by kernel_rfl, by kernel_rfl, by kernel_rfl, fun _ _ _ h => h, Or.inl ⟨by rfl, ?_⟩, by assumption, ?_⟩
        rotate_left 1
        · (intro w9 hSw; (try dsimp only at hSw); go_simp; try (with_reducible rfl))
        try simp only [Act.put, List.setIfInBounds_toArray, List.set_cons_zero, List.set_cons_succ]
        refine wpAnyH_take2 (i := 14) (by simp only [List.getElem?_toArray, List.getElem?_cons_succ, List.getElem?_cons_zero]; first | done | exact rfl) ⟨?_, by kernel_rfl, by kernel_rfl, by kernel_rfl, fun _ _ _ h => h, Or.inl ⟨by rfl, ?_⟩, by assumption, ?_⟩
        rotate_left 1
        · (intro w9 hSw; (try dsimp only at hSw); go_simp; try (with_reducible rfl))
        try simp only [Act.put, List.setIfInBounds_toArray, List.set_cons_zero, List.set_cons_succ]
        refine wpAnyH_ready (rs := [15]) (by kernel_rfl) (by simp) ?_
        refine AllReadyH.cons2 (by simp only [List.getElem?_toArray, List.getElem?_cons_succ, List.getElem?_cons_zero]; first | done | exact rfl) (fun K hK => ?_)
        rw [if_pos (by rfl)]
        go_simp
        refine hK.out _ _ (trivial) (fun hHeld => ?_)
        clear hK K
        try simp only [Act.put, List.setIfInBounds_toArray, List.set_cons_zero, List.set_cons_succ]
        refine wpAnyH_done (by kernel_rfl) ?_ _
        refine NoPanic.normal ?_
        go_wp2_with fail
        go_ret
        rw [HE.out]
        have F1 := (HB5.out.set 4 (.slice A5 y c5)).set 5 (.int .i64 (Apd.exn (L.drop (2 + y)) : Int))
        have F2 := Below.setCell (p := ⟨g, 5, none⟩) (Below.setCell (p := ⟨g, 4, none⟩) hbw5 (Nat.le_refl _) (.slice A5 y c5)) (Nat.le_refl _) (.int .i64 (Apd.exn (L.drop (2 + y)) : Int))
        have F3 := (HOW.out.setCell (p := ⟨g, 4, none⟩) HO5.out (.slice A5 y c5)).setCell (p := ⟨g, 5, none⟩) HO5.out (.int .i64 (Apd.exn (L.drop (2 + y)) : Int))
        have hdd : (L.drop 2).drop y = L.drop (2 + y) := by rw [List.drop_drop]
        clear HB5 HOW HO5 hbw5
        simp only [hdd, hlen]
        exact ⟨rfl, F2, fun _ => ⟨A5, c5, F1, F3⟩⟩
    · subst hq2
      rw [Nat.add_sub_cancel_left] at HLE
      have hqs : 2 ≤ 2 := by omega
      go_upto_region 23 with (go_at_call 59; refine HGT.out.mono ?_; rintro e w1 ⟨rfl, rfl⟩)
      clear k4 k5 k6 f4 f5
      refine wp_region_noPanic ?_
      refine wp_region_held_drew (S := fun _ => True) (by kernel_rfl) (trivial) (fun hHeld => ?_)
      refine wpAnyH_take2 (i := 0) (by simp only [List.getElem?_toArray, List.getElem?_cons_succ, List.getElem?_cons_zero]; first | done | exact rfl) ⟨?_, by kernel_rfl, by kernel_rfl, by kernel_rfl, fun _ _ _ h => h, Or.inl ⟨by rfl, ?_⟩, by assumption, ?_⟩
      rotate_left 1
      · (intro w9 hSw; (try dsimp only at hSw); go_simp; try (with_reducible rfl))
      try simp only [Act.put, List.setIfInBounds_toArray, List.set_cons_zero, List.set_cons_succ]
      refine wpAnyH_take2 (i := 1) (by simp only [List.getElem?_toArray, List.getElem?_cons_succ, List.getElem?_cons_zero]; first | done | exact rfl) ⟨?_, by kernel_rfl, by kernel_rfl, by kernel_rfl, fun _ _ _ h => h, Or.inl ⟨by rfl, ?_⟩, by assumption, ?_⟩
      rotate_left 1
      · (intro w9 hSw; (try dsimp only at hSw); go_simp; try (with_reducible rfl))
      try simp only [Act.put, List.setIfInBounds_toArray, List.set_cons_zero, List.set_cons_succ]
      refine wpAnyH_take2 (i := 2) (by simp only [List.getElem?_toArray, List.getElem?_cons_succ, List.getElem?_cons_zero]; first | done | exact rfl) ⟨?_, by kernel_rfl, by kernel_rfl, by kernel_rfl, fun _ _ _ h => h, Or.inl ⟨by rfl, ?_⟩, by assumption, ?_⟩
      rotate_left 1
      · (intro w9 hSw; (try dsimp only at hSw); go_simp; try (with_reducible rfl))
      try simp only [Act.put, List.setIfInBounds_toArray, List.set_cons_zero, List.set_cons_succ]
      refine wpAnyH_take2 (i := 3) (by simp only [List.getElem?_toArray, List.getElem?_cons_succ, List.getElem?_cons_zero]; first | done | exact rfl) ⟨?_, by kernel_rfl, by kernel_rfl, by kernel_rfl, fun _ _ _ h => h, Or.inl ⟨by rfl, ?_⟩, by assumption, ?_⟩
      rotate_left 1
      · (intro w9 hSw; (try dsimp only at hSw); go_simp; try (with_reducible rfl))
      try simp only [Act.put, List.setIfInBounds_toArray, List.set_cons_zero, List.set_cons_succ]
      refine wpAnyH_take2 (i := 4) (by simp only [List.getElem?_toArray, List.getElem?_cons_succ, List.getElem?_cons_zero]; first | done | exact rfl) ⟨?_, by kernel_rfl, by kernel_rfl, by kernel_rfl, fun _ _ _ h => h, Or.inl ⟨by rfl, ?_⟩, by assumption, ?_⟩
      rotate_left 1
      · (intro w9 hSw; (try dsimp only at hSw); go_simp; try (with_reducible rfl))
      try simp only [Act.put, List.setIfInBounds_toArray, List.set_cons_zero, List.set_cons_succ]
      refine wpAnyH_take2 (i := 6) (by simp only [List.getElem?_toArray, List.getElem?_cons_succ, List.getElem?_cons_zero]; first | done | exact rfl) ⟨?_, by kernel_rfl, by kernel_rfl, by kernel_rfl, fun _ _ _ h => h, Or.inl ⟨by rfl, ?_⟩, by assumption, ?_⟩
      rotate_left 1
      · (intro w9 hSw; (try dsimp only at hSw); go_simp; try (with_reducible rfl))
      try simp only [Act.put, List.setIfInBounds_toArray, List.set_cons_zero, List.set_cons_succ]
      refine wpAnyH_take2 (i := 7) (by simp only [List.getElem?_toArray, List.getElem?_cons_succ, List.getElem?_cons_zero]; first | done | exact rfl) ⟨?_, by kernel_rfl, by kernel_rfl, by kernel_rfl, fun _ _ _ h => h, Or.inl ⟨by rfl, ?_⟩, by assumption, ?_⟩
      rotate_left 1
      · (intro w9 hSw; (try dsimp only at hSw); go_simp; try (with_reducible rfl))
      try simp only [Act.put, List.setIfInBounds_toArray, List.set_cons_zero, List.set_cons_succ]
      refine wpAnyH_take2 (i := 8) (by simp only [List.getElem?_toArray, List.getElem?_cons_succ, List.getElem?_cons_zero]; first | done | exact rfl) ⟨?_, by kernel_rfl, by kernel_rfl, by kernel_rfl, fun _ _ _ h => h, Or.inl ⟨by rfl, ?_⟩, by assumption, ?_⟩
      rotate_left 1
      · (intro w9 hSw; (try dsimp only at hSw); go_simp; try (with_reducible rfl))
      try simp only [Act.put, List.setIfInBounds_toArray, List.set_cons_zero, List.set_cons_succ]
      refine wpAnyH_ready (rs := [5]) (by kernel_rfl) (by simp) ?_
      refine AllReadyH.cons2 (by simp only [List.getElem?_toArray, List.getElem?_cons_succ, List.getElem?_cons_zero]; first | done | exact rfl) (fun K hK => ?_)
      rw [if_pos (by rfl)]
      go_simp
      go_at_call 50
      refine (slices_Clone _ y ((c - 1) - 2) _ _ (by exact HDA.out) (by omega)).mono ?_
      rintro e w5 ⟨A5, c5, rfl, ho5, hb5⟩
      have hlen : ((L.drop 2).take y).length = y := HDA.out.1
      have B5 : Blk w5 g 24 _ := Blk.below (HB2.out.drew) hb5 (by exact hg2)
      have hbw5 := HBW.out.drew.trans (hb5.mono (Nat.le_of_lt (by exact hg2)))
      have k4 := B5.cell 4
      have k5 := B5.cell 5
      have f4 := B5.frozen 4
      have f5 := B5.frozen 5
      have HO5 := Lib.hid (own_ge ho5 (by omega) (show g < _ from hg2))
      have HOW := Lib.hid (ho5.mono (base' := g + 1) (by exact hg2))
      have HX := Lib.hid (apdu_expected _ 2 _ _ w5 (Byt.more (B' := w5.heap.size) (Byt.below (w := w2.drew) (w' := w5) (B := w2.drew.heap.size) HLE.out hb5) hb5.size) hqs)
      have HB5 := Lib.hid B5
      clear ho5 hb5 B5
      go_wp2_with fail
      refine hK.out _ _ (trivial) (fun hHeld => ?_)
      clear hK K
      try simp only [Act.put, List.setIfInBounds_toArray, List.set_cons_zero, List.set_cons_succ]
      refine wpAnyH_ready (rs := [9]) (by kernel_rfl) (by simp) ?_
      refine AllReadyH.cons2 (by simp only [List.getElem?_toArray, List.getElem?_cons_succ, List.getElem?_cons_zero]; first | done | exact rfl) (fun K hK => ?_)
      rw [if_pos (by rfl)]
      go_simp
      go_at_call 58
      have HX2 := HX.out
      refine HX2.mono ?_
      clear HX2
      rintro e w6 ⟨rfl, rfl⟩
      go_wp2_with fail
      refine hK.out _ _ (trivial) (fun hHeld => ?_)
      clear hK K
      try simp only [Act.put, List.setIfInBounds_toArray, List.set_cons_zero, List.set_cons_succ]
      refine wpAnyH_take2 (i := 10) (by simp only [List.getElem?_toArray, List.getElem?_cons_succ, List.getElem?_cons_zero]; first | done | exact rfl) ⟨?_, by kernel_rfl, by kernel_rfl, by kernel_rfl, fun _ _ _ h => h, Or.inl ⟨by rfl, ?_⟩, by assumption, ?_⟩
      rotate_left 1
      · (intro w9 hSw; (try dsimp only at hSw); go_simp; try (with_reducible rfl))
      try simp only [Act.put, List.setIfInBounds_toArray, List.set_cons_zero, List.set_cons_succ]
      refine wpAnyH_take2 (i := 11) (by simp only [List.getElem?_toArray, List.getElem?_cons_succ, List.getElem?_cons_zero]; first | done | exact rfl) ⟨?_, by kernel_rfl, by kernel_rfl, by kernel_rfl, fun _ _ _ h => h, Or.inl ⟨by rfl, ?_⟩, by assumption, ?_⟩
      rotate_left 1
      · (intro w9 hSw; (try dsimp only at hSw); go_simp; try (with_reducible rfl))
      try simp only [Act.put, List.setIfInBounds_toArray, List.set_cons_zero, List.set_cons_succ]
      refine wpAnyH_ready (rs := [12]) (by kernel_rfl) (by simp) ?_
      refine AllReadyH.cons2 (by simp only [List.getElem?_toArray, List.getElem?_cons_succ, List.getElem?_cons_zero]; first | done | exact rfl) (fun K hK => ?_)
      rw [if_pos (by rfl)]
      go_simp
      refine hK.out _ _ (trivial) (fun hHeld => ?_)
      clear hK K
      try simp only [Act.put, List.setIfInBounds_toArray, List.set_cons_zero, List.set_cons_succ]
      refine wpAnyH_take2 (i := 13) (by simp only [List.getElem?_toArray, List.getElem?_cons_succ, List.getElem?_cons_zero]; first | done | exact rfl) ⟨?_, by kernel_rfl, by kernel_rfl, by kernel_rfl, fun _ _ _ h => h, Or.inl ⟨by rfl, ?_⟩, by assumption, ?_⟩
      rotate_left 1
      · (intro w9 hSw; (try dsimp only at hSw); go_simp; try (with_reducible rfl))
      try simp only [Act.put, List.setIfInBounds_toArray, List.set_cons_zero, List.set_cons_succ]
      refine wpAnyH_take2 (i := 14) (by simp only [List.getElem?_toArray, List.getElem?_cons_succ, List.getElem?_cons_zero]; first | done | exact rfl) ⟨?_, by kernel_rfl, by kernel_rfl, by kernel_rfl, fun _ _ _ h => h, Or.inl ⟨by rfl, ?_⟩, by assumption, ?_⟩
      rotate_left 1
      · (intro w9 hSw; (try dsimp only at hSw); go_simp; try (with_reducible rfl))
      try simp only [Act.put, List.setIfInBounds_toArray, List.set_cons_zero, List.set_cons_succ]
      refine wpAnyH_ready (rs := [15]) (by kernel_rfl) (by simp) ?_
      refine AllReadyH.cons2 (by simp only [List.getElem?_toArray, List.getElem?_cons_succ, List.getElem?_cons_zero]; first | done | exact rfl) (fun K hK => ?_)
      rw [if_pos (by rfl)]
      go_simp
      refine hK.out _ _ (trivial) (fun hHeld => ?_)
      clear hK K
      try simp only [Act.put, List.setIfInBounds_toArray, List.set_cons_zero, List.set_cons_succ]
      refine wpAnyH_done (by kernel_rfl) ?_ _
      refine NoPanic.normal ?_
      go_wp2_with fail
      go_ret
      rw [HE.out]
      have F1 := (HB5.out.set 4 (.slice A5 y c5)).set 5 (.int .i64 (Apd.exn (L.drop (2 + y)) : Int))
      have F2 := Below.setCell (p := ⟨g, 5, none⟩) (Below.setCell (p := ⟨g, 4, none⟩) hbw5 (Nat.le_refl _) (.slice A5 y c5)) (Nat.le_refl _) (.int .i64 (Apd.exn (L.drop (2 + y)) : Int))
      have F3 := (HOW.out.setCell (p := ⟨g, 4, none⟩) HO5.out (.slice A5 y c5)).setCell (p := ⟨g, 5, none⟩) HO5.out (.int .i64 (Apd.exn (L.drop (2 + y)) : Int))
      have hdd : (L.drop 2).drop y = L.drop (2 + y) := by rw [List.drop_drop]
      clear HB5 HOW HO5 hbw5
      simp only [hdd, hlen]
      exact ⟨rfl, F2, fun _ => ⟨A5, c5, F1, F3⟩⟩
  · have hE : Apd.bdE b = (Apd.rst b 1 false).1 := by unfold Apd.bdE; rw [if_neg (by omega), if_neg hx0]
    have hD : Apd.bdD b = (Apd.rst b 1 false).2.1 := by unfold Apd.bdD; rw [if_neg (by omega), if_neg hx0]
    have hL : Apd.bdL b = (Apd.rst b 1 false).2.2 := by unfold Apd.bdL; rw [if_neg (by omega), if_neg hx0]
    have hG : Apd.bdG b = false := by unfold Apd.bdG; rw [if_neg (by omega)]; exact beq_eq_false_iff_ne.2 hx0
    unfold BodyRes
    rw [hE, hD, hL, hG]
    have hbw := Below.refl g w
    have hx2 : ¬ ((b.getD 0 0).toNat : Int) = 0 := by
      intro e; apply hx0; apply UInt8.toNat_inj.1; rw [show (b.getD 0 0).toNat = 0 by omega]; rfl
    clear hE hD hL hG hl hx0
    generalize (b.getD 0 0).toNat = x0 at *
    go_enter Try.func45, Try.ntmps45
    go_upto_region 10 with fail
    clear k5 k6 f5 f6 hc0 hx2
    rename Byt w g (some ⟨bb, o, none⟩) n c b => hby
    rename Blk w g _ _ => hb2
    have hm := hby.1
    have hnc2 := hby.2.1
    have hg2 := hb2.lt
    have k5 := hb2.cell 5
    have k6 := hb2.cell 6
    have f5 := hb2.frozen 5
    have hA : ¬ n < 1 := by omega
    obtain ⟨r, rfl⟩ : ∃ r, n = 1 + r := ⟨n - 1, by omega⟩
    have c1 : ¬ b.length < 1 := by omega
    have c2 : ¬ (false = true ∧ b.length = 1) := by simp
    have c3 : (b.drop 1).length = r := by rw [List.length_drop]; omega
    have hd := Byt.drop hby 1 (by omega)
    rw [Nat.add_sub_cancel_left] at hd
    have ht := Byt.take hby 1 c (by omega) (by omega)
    have hGt := octets_Get _ 1 c _ w (ht.more (Nat.le_of_lt hg2))
    rw [gt_small _ (by rw [ht.1]; omega)] at hGt
    have hbig : Oct.num (b.take 1) < 65536 := by
      have h1 : Oct.num (b.take 1) < 256 ^ (b.take 1).length := Oct.numK_lt _ _
      rw [ht.1] at h1
      exact Nat.lt_of_lt_of_le h1 (show 256 ^ 1 ≤ 65536 by decide)
    have HGT := Lib.hid hGt
    have HD := Lib.hid hd
    have j1 : ¬ ((1 + r : Nat) : Int) < 1 := by omega
    clear hGt hd ht hby
    generalize hy : Oct.num (b.take 1) = y at *
    have HY := Lib.hid hy
    clear hy
    by_cases hy0 : y = 0
    · have e : Apd.rst b 1 false = (4, [], 0) := by unfold Apd.rst; rw [if_neg c1, if_neg c2, HY.out, if_pos hy0]
      have HE := Lib.hid e
      subst hy0
      clear e c1 c2 c3 hA
      go_wp2_with (go_at_call 59; refine HGT.out.mono ?_; rintro e w1 ⟨rfl, rfl⟩)
      go_ret
      rw [HE.out]
      exact ⟨rfl, hbw, fun h => absurd h (by decide)⟩
    have j2 : ¬ (y : Int) = 0 := by omega
    by_cases hry : r < y
    · have e : Apd.rst b 1 false = (5, [], 0) := by unfold Apd.rst; rw [if_neg c1, if_neg c2, HY.out, if_neg hy0, c3, if_pos hry]
      have HE := Lib.hid e
      clear e c1 c2 c3 hA
      go_wp2_with (go_at_call 59; refine HGT.out.mono ?_; rintro e w1 ⟨rfl, rfl⟩)
      go_ret
      rw [HE.out]
      exact ⟨rfl, hbw, fun h => absurd h (by decide)⟩
    by_cases hq : r ≠ y ∧ r ≠ y + 1
    · have e : Apd.rst b 1 false = (4, [], 0) := by unfold Apd.rst; rw [if_neg c1, if_neg c2, HY.out, if_neg hy0, c3, if_neg hry, if_pos hq]
      have HE := Lib.hid e
      clear e c1 c2 c3 hA
      have q1 : ((r : Int) != (y : Int)) = true := by rw [bne_iff_ne]; omega
      have q2 : ((r : Int) != (y : Int) + 1) = true := by rw [bne_iff_ne]; omega
      go_wp2_with (go_at_call 59; refine HGT.out.mono ?_; rintro e w1 ⟨rfl, rfl⟩)
      go_ret
      rw [HE.out]
      exact ⟨rfl, hbw, fun h => absurd h (by decide)⟩
    have e : Apd.rst b 1 false = (0, (b.drop 1).take y, Apd.exn ((b.drop 1).drop y)) := by unfold Apd.rst; rw [if_neg c1, if_neg c2, HY.out, if_neg hy0, c3, if_neg hry, if_neg hq]
    have HE := Lib.hid e
    clear e
    have hq2 : y = r ∨ r = y + 1 := by omega
    have hda := Byt.take HD.out y (c - 1) (by omega) (by omega)
    have hle := Byt.drop HD.out y (by omega)
    have HDA := Lib.hid (hda.more (Nat.le_of_lt hg2))
    have HLE := Lib.hid (hle.more (Nat.le_of_lt hg2))
    have k4 := hb2.cell 4
    have f4 := hb2.frozen 4
    have HB2 := Lib.hid hb2
    have HBW := Lib.hid hbw
    have hca : y ≤ c - 1 := hda.2.1
    clear hda hle c1 c2 c3 hA hry hq HD hb2 hbw
    rcases hq2 with hq2 | hq2
    · subst hq2
      rw [Nat.sub_self] at HLE
      have HX0 := Lib.hid (fun (u : World) (A' : Option Addr) (c' : Nat) => apdu_expected A' 0 c' ((b.drop 1).drop y) u ⟨HLE.out.1, Nat.zero_le _, fun hn => absurd hn (by rw [length_bcells, HLE.out.1]; exact Nat.lt_irrefl 0)⟩ (Nat.zero_le 2))
      obtain ⟨cp, hcp⟩ : ∃ cp, c - 1 = cp := ⟨_, rfl⟩
      clear HLE
      rw [hcp] at HDA hca
      by_cases hcap : y = cp
      · subst hcap
        go_upto_region 23 with (go_at_call 59; refine HGT.out.mono ?_; rintro e w1 ⟨rfl, rfl⟩)
        clear k4 k5 k6 f4 f5
        refine wp_region_noPanic ?_
        refine wp_region_held_drew (S := fun _ => True) (by kernel_rfl) (trivial) (fun hHeld => ?_)
        refine wpAnyH_take2 (i := 0) (by simp only [List.getElem?_toArray, List.getElem?_cons_succ, List.getElem?_cons_zero]; first | done | exact rfl) ⟨?_, by kernel_rfl, by kernel_rfl, by kernel_rfl, fun _ _ _ h => h, Or.inl ⟨by rfl, ?_⟩, by assumption, ?_⟩
        rotate_left 1
        · (intro w9 hSw; (try dsimp only at hSw); go_simp; try (with_reducible rfl))
        try simp only [Act.put, List.setIfInBounds_toArray, List.set_cons_zero, List.set_cons_succ]
        refine wpAnyH_take2 (i := 1) (by simp only [List.getElem?_toArray, List.getElem?_cons_succ, List.getElem?_cons_zero]; first | done | exact rfl) ⟨?_, by kernel_rfl, by kernel_rfl, by kernel_rfl, fun _ _ _ h => h, Or.inl ⟨by rfl, ?_⟩, by assumption, ?_⟩
        rotate_left 1
        · (intro w9 hSw; (try dsimp only at hSw); go_simp; try (with_reducible rfl))
        try simp only [Act.put, List.setIfInBounds_toArray, List.set_cons_zero, List.set_cons_succ]
        refine wpAnyH_take2 (i := 2) (by simp only [List.getElem?_toArray, List.getElem?_cons_succ, List.getElem?_cons_zero]; first | done | exact rfl) ⟨?_, by kernel_rfl, by kernel_rfl, by kernel_rfl, fun _ _ _ h => h, Or.inl ⟨by rfl, ?_⟩, by assumption, ?_⟩
        rotate_left 1
        · (intro w9 hSw; (try dsimp only at hSw); go_simp; try (with_reducible rfl))
        try simp only [Act.put, List.setIfInBounds_toArray, List.set_cons_zero, List.set_cons_succ]
        refine wpAnyH_take2 (i := 3) (by simp only [List.getElem?_toArray, List.getElem?_cons_succ, List.getElem?_cons_zero]; first | done | exact rfl) ⟨?_, by kernel_rfl, by kernel_rfl, by kernel_rfl, fun _ _ _ h => h, Or.inl ⟨by rfl, ?_⟩, by assumption, ?_⟩
        rotate_left 1
        · (intro w9 hSw; (try dsimp only at hSw); go_simp; try (with_reducible rfl))
        try simp only [Act.put, List.setIfInBounds_toArray, List.set_cons_zero, List.set_cons_succ]
        refine wpAnyH_take2 (i := 4) (by simp only [List.getElem?_toArray, List.getElem?_cons_succ, List.getElem?_cons_zero]; first | done | exact rfl) ⟨?_, by kernel_rfl, by kernel_rfl, by kernel_rfl, fun _ _ _ h => h, Or.inl ⟨by rfl, ?_⟩, by assumption, ?_⟩
        rotate_left 1
        · (intro w9 hSw; (try dsimp only at hSw); go_simp; try (with_reducible rfl))
        try simp only [Act.put, List.setIfInBounds_toArray, List.set_cons_zero, List.set_cons_succ]
        refine wpAnyH_take2 (i := 6) (by simp only [List.getElem?_toArray, List.getElem?_cons_succ, List.getElem?_cons_zero]; first | done | exact rfl) ⟨?_, by kernel_rfl, by kernel_rfl, by kernel_rfl, fun _ _ _ h => h, Or.inl ⟨by rfl, ?_⟩, by assumption, ?_⟩
        rotate_left 1
        · (intro w9 hSw; (try dsimp only at hSw); go_simp; try (with_reducible rfl))
        try simp only [Act.put, List.setIfInBounds_toArray, List.set_cons_zero, List.set_cons_succ]
        refine wpAnyH_take2 (i := 7) (by simp only [List.getElem?_toArray, List.getElem?_cons_succ, List.getElem?_cons_zero]; first | done | exact rfl) ⟨?_, by kernel_rfl, by kernel_rfl, by kernel_rfl, fun _ _ _ h => h, Or.inl ⟨by rfl, ?_⟩, by assumption, ?_⟩
        rotate_left 1
        · (intro w9 hSw; (try dsimp only at hSw); go_simp; try (with_reducible rfl))
        try simp only [Act.put, List.setIfInBounds_toArray, List.set_cons_zero, List.set_cons_succ]
        refine wpAnyH_take2 (i := 8) (by simp only [List.getElem?_toArray, List.getElem?_cons_succ, List.getElem?_cons_zero]; first | done | exact rfl) ⟨?_, by kernel_rfl, by kernel_rfl, by kernel_rfl, fun _ _ _ h => h, Or.inl ⟨by rfl, ?_⟩, by assumption, ?_⟩
        rotate_left 1
        · (intro w9 hSw; (try dsimp only at hSw); go_simp; try (with_reducible rfl))
        try simp only [Act.put, List.setIfInBounds_toArray, List.set_cons_zero, List.set_cons_succ]
        refine wpAnyH_ready (rs := [5]) (by kernel_rfl) (by simp) ?_
        refine AllReadyH.cons2 (by simp only [List.getElem?_toArray, List.getElem?_cons_succ, List.getElem?_cons_zero]; first | done | exact rfl) (fun K hK => ?_)
        rw [if_pos (by rfl)]
        go_simp
        go_at_call 50
        refine (slices_Clone _ y y _ _ (by exact HDA.out) (by omega)).mono ?_
        rintro e w5 ⟨A5, c5, rfl, ho5, hb5⟩
        have hlen : ((b.drop 1).take y).length = y := HDA.out.1
        have B5 : Blk w5 g 24 _ := Blk.below (HB2.out.drew) hb5 (by exact hg2)
        have hbw5 := HBW.out.drew.trans (hb5.mono (Nat.le_of_lt (by exact hg2)))
        have k4 := B5.cell 4
        have k5 := B5.cell 5
        have f4 := B5.frozen 4
        have f5 := B5.frozen 5
        have HO5 := Lib.hid (own_ge ho5 (by omega) (show g < _ from hg2))
        have HOW := Lib.hid (ho5.mono (base' := g + 1) (by exact hg2))
        have HX := Lib.hid (HX0.out w5)
        have HB5 := Lib.hid B5
        clear ho5 hb5 B5
        go_wp2_with fail
        refine hK.out _ _ (trivial) (fun hHeld => ?_)
        clear hK K
        try simp only [Act.put, List.setIfInBounds_toArray, List.set_cons_zero, List.set_cons_succ]
        refine wpAnyH_ready (rs := [9]) (by kernel_rfl) (by simp) ?_
        refine AllReadyH.cons2 (by simp only [List.getElem?_toArray, List.getElem?_cons_succ, List.getElem?_cons_zero]; first | done | exact rfl) (fun K hK => ?_)
        rw [if_pos (by rfl)]
        go_simp
        go_at_call 58
        have HX2 := HX.out
        refine (HX2 _ _).mono ?_
        clear HX2
        rintro e w6 ⟨rfl, rfl⟩
        go_wp2_with fail
        refine hK.out _ _ (trivial) (fun hHeld => ?_)
        clear hK K
        try simp only [Act.put, List.setIfInBounds_toArray, List.set_cons_zero, List.set_cons_succ]
        refine wpAnyH_take2 (i := 10) (by simp only [List.getElem?_toArray, List.getElem?_cons_succ, List.getElem?_cons_zero]; first | done | exact rfl) ⟨?_, by kernel_rfl, by kernel_rfl, by kernel_rfl, fun _ _ _ h => h, Or.inl ⟨by rfl, ?_⟩, by assumption, ?_⟩
        rotate_left 1
        · (intro w9 hSw; (try dsimp only at hSw); go_simp; try (with_reducible rfl))
        try simp only [Act.put, List.setIfInBounds_toArray, List.set_cons_zero, List.set_cons_succ]
        refine wpAnyH_take2 (i := 11) (by simp only [List.getElem?_toArray, List.getElem?_cons_succ, List.getElem?_cons_zero]; first | done | exact rfl) ⟨?_, by kernel_rfl, by kernel_rfl, by kernel_rfl, fun _ _ _ h => h, Or.inl ⟨by rfl, ?_⟩, by assumption, ?_⟩
        rotate_left 1
        · (intro w9 hSw; (try dsimp only at hSw); go_simp; try (with_reducible rfl))
        try simp only [Act.put, List.setIfInBounds_toArray, List.set_cons_zero, List.set_cons_succ]
        refine wpAnyH_ready (rs := [12]) (by kernel_rfl) (by simp) ?_
        refine AllReadyH.cons2 (by simp only [List.getElem?_toArray, List.getElem?_cons_succ, List.getElem?_cons_zero]; first | done | exact rfl) (fun K hK => ?_)
        rw [if_pos (by rfl)]
        go_simp
        refine hK.out _ _ (trivial) (fun hHeld => ?_)
        clear hK K
        try simp only [Act.put, List.setIfInBounds_toArray, List.set_cons_zero, List.set_cons_succ]
        refine wpAnyH_take2 (i := 13) (by simp only [List.getElem?_toArray, List.getElem?_cons_succ, List.getElem?_cons_zero]; first | done | exact rfl) ⟨?_, by kernel_rfl, by kernel_rfl, by kernel_rfl, fun _ _ _ h => h, Or.inl ⟨by rfl, ?_⟩, by assumption, ?_⟩
        rotate_left 1
        · (intro w9 hSw; (try dsimp only at hSw); go_simp; try (with_reducible rfl))
        try simp only [Act.put, List.setIfInBounds_toArray, List.set_cons_zero, List.set_cons_succ]
        refine wpAnyH_take2 (i := 14) (by simp only [List.getElem?_toArray, List.getElem?_cons_succ, List.getElem?_cons_zero]; first | done | exact rfl) ⟨?_, by kernel_rfl, by kernel_rfl, by kernel_rfl, fun _ _ _ h => h, Or.inl ⟨by rfl, ?_⟩, by assumption, ?_⟩
        rotate_left 1
        · (intro w9 hSw; (try dsimp only at hSw); go_simp; try (with_reducible rfl))
        try simp only [Act.put, List.setIfInBounds_toArray, List.set_cons_zero, List.set_cons_succ]
        refine wpAnyH_ready (rs := [15]) (by kernel_rfl) (by simp) ?_
        refine AllReadyH.cons2 (by simp only [List.getElem?_toArray, List.getElem?_cons_succ, List.getElem?_cons_zero]; first | done | exact rfl) (fun K hK => ?_)
        rw [if_pos (by rfl)]
        go_simp
        refine hK.out _ _ (trivial) (fun hHeld => ?_)
        clear hK K
        try simp only [Act.put, List.setIfInBounds_toArray, List.set_cons_zero, List.set_cons_succ]
        refine wpAnyH_done (by kernel_rfl) ?_ _
        refine NoPanic.normal ?_
        go_wp2_with fail
        go_ret
        rw [HE.out]
        have F1 := (HB5.out.set 4 (.slice A5 y c5)).set 5 (.int .i64 (Apd.exn (b.drop (y + 1)) : Int))
        have F2 := Below.setCell (p := ⟨g, 5, none⟩) (Below.setCell (p := ⟨g, 4, none⟩) hbw5 (Nat.le_refl _) (.slice A5 y c5)) (Nat.le_refl _) (.int .i64 (Apd.exn (b.drop (y + 1)) : Int))
        have F3 := (HOW.out.setCell (p := ⟨g, 4, none⟩) HO5.out (.slice A5 y c5)).setCell (p := ⟨g, 5, none⟩) HO5.out (.int .i64 (Apd.exn (b.drop (y + 1)) : Int))
        have hdd : (b.drop 1).drop y = b.drop (y + 1) := by rw [List.drop_drop, Nat.add_comm]
        clear HB5 HOW HO5 hbw5
        simp only [hdd, hlen]
        exact ⟨rfl, F2, fun _ => ⟨A5, c5, F1, F3⟩⟩
      · have hcap2 : ¬ cp = y := fun e => hcap e.symm
        go_upto_region 23 with (go_at_call 59; refine HGT.out.mono ?_; rintro e w1 ⟨rfl, rfl⟩)
        clear k4 k5 k6 f4 f5
        refine wp_region_noPanic ?_
        refine wp_region_held_drew (S := fun _ => True) (by kernel_rfl) (trivial) (fun hHeld => ?_)
        refine wpAnyH_take2 (i := 0) (by simp only [List.getElem?_toArray, List.getElem?_cons_succ, List.getElem?_cons_zero]; first | done | exact rfl) ⟨?_, by kernel_rfl, by kernel_rfl, by kernel_rfl, fun _ _ _ h => h, Or.inl ⟨by rfl, ?_⟩, by assumption, ?_⟩
        rotate_left 1
        · (intro w9 hSw; (try dsimp only at hSw); go_simp; try (with_reducible rfl))
        try simp only [Act.put, List.setIfInBounds_toArray, List.set_cons_zero, List.set_cons_succ]
        refine wpAnyH_take2 (i := 1) (by simp only [List.getElem?_toArray, List.getElem?_cons_succ, List.getElem?_cons_zero]; first | done | exact rfl) ⟨?_, by kernel_rfl, by kernel_rfl, by kernel_rfl, fun _ _ _ h => h, Or.inl ⟨by rfl, ?_⟩, by assumption, ?_⟩
        rotate_left 1
        · (intro w9 hSw; (try dsimp only at hSw); go_simp; try (with_reducible rfl))
        try simp only [Act.put, List.setIfInBounds_toArray, List.set_cons_zero, List.set_cons_succ]
        refine wpAnyH_take2 (i := 2) (by simp only [List.getElem?_toArray, List.getElem?_cons_succ, List.getElem?_cons_zero]; first | done | exact rfl) ⟨?_, by kernel_rfl, by kernel_rfl, by kernel_rfl, fun _ _ _ h => h, Or.inl ⟨by rfl, ?_⟩, by assumption, ?_⟩
        rotate_left 1
        · (intro w9 hSw; (try dsimp only at hSw); go_simp; try (with_reducible rfl))
        try simp only [Act.put, List.setIfInBounds_toArray, List.set_cons_zero, List.set_cons_succ]
        refine wpAnyH_take2 (i := 3) (by simp only [List.getElem?_toArray, List.getElem?_cons_succ, List.getElem?_cons_zero]; first | done | exact rfl) ⟨?_, by kernel_rfl, by kernel_rfl, by kernel_rfl, fun _ _ _ h => h, Or.inl ⟨by rfl, ?_⟩, by assumption, ?_⟩
        rotate_left 1
        · (intro w9 hSw; (try dsimp only at hSw); go_simp; try (with_reducible rfl))
        try simp only [Act.put, List.setIfInBounds_toArray, List.set_cons_zero, List.set_cons_succ]
        refine wpAnyH_take2 (i := 4) (by simp only [List.getElem?_toArray, List.getElem?_cons_succ, List.getElem?_cons_zero]; first | done | exact rfl) ⟨?_, by kernel_rfl, by kernel_rfl, by kernel_rfl, fun _ _ _ h => h, Or.inl ⟨by rfl, ?_⟩, by assumption, ?_⟩
        rotate_left 1
        · (intro w9 hSw; (try dsimp only at hSw); go_simp; try (with_reducible rfl))
        try simp only [Act.put, List.setIfInBounds_toArray, List.set_cons_zero, List.set_cons_succ]
        refine wpAnyH_take2 (i := 6) (by simp only [List.getElem?_toArray, List.getElem?_cons_succ, List.getElem?_cons_zero]; first | done | exact rfl) ⟨?_, by kernel_rfl, by kernel_rfl, by kernel_rfl, fun _ _ _ h => h, Or.inl ⟨by rfl, ?_⟩, by assumption, ?_⟩
        rotate_left 1
        · (intro w9 hSw; (try dsimp only at hSw); go_simp; try (with_reducible rfl))
        try simp only [Act.put, List.setIfInBounds_toArray, List.set_cons_zero, List.set_cons_succ]
        refine wpAnyH_take2 (i := 7) (by simp only [List.getElem?_toArray, List.getElem?_cons_succ, List.getElem?_cons_zero]; first | done | exact rfl) ⟨?_, by kernel_rfl, by kernel_rfl, by kernel_rfl, fun _ _ _ h => h, Or.inl ⟨by rfl, ?_⟩, by assumption, ?_⟩
        rotate_left 1
        · (intro w9 hSw; (try dsimp only at hSw); go_simp; try (with_reducible rfl))
        try simp only [Act.put, List.setIfInBounds_toArray, List.set_cons_zero, List.set_cons_succ]
        refine wpAnyH_take2 (i := 8) (by simp only [List.getElem?_toArray, List.getElem?_cons_succ, List.getElem?_cons_zero]; first | done | exact rfl) ⟨?_, by kernel_rfl, by kernel_rfl, by kernel_rfl, fun _ _ _ h => h, Or.inl ⟨by rfl, ?_⟩, by assumption, ?_⟩
        rotate_left 1
        · (intro w9 hSw; (try dsimp only at hSw); go_simp; try (with_reducible rfl))
        try simp only [Act.put, List.setIfInBounds_toArray, List.set_cons_zero, List.set_cons_succ]
        refine wpAnyH_ready (rs := [5]) (by kernel_rfl) (by simp) ?_
        refine AllReadyH.cons2 (by simp only [List.getElem?_toArray, List.getElem?_cons_succ, List.getElem?_cons_zero]; first | done | exact rfl) (fun K hK => ?_)
        rw [if_pos (by rfl)]
        go_simp
        go_at_call 50
        refine (slices_Clone _ y cp _ _ (by exact HDA.out) (by omega)).mono ?_
        rintro e w5 ⟨A5, c5, rfl, ho5, hb5⟩
        have hlen : ((b.drop 1).take y).length = y := HDA.out.1
        have B5 : Blk w5 g 24 _ := Blk.below (HB2.out.drew) hb5 (by exact hg2)
        have hbw5 := HBW.out.drew.trans (hb5.mono (Nat.le_of_lt (by exact hg2)))
        have k4 := B5.cell 4
        have k5 := B5.cell 5
        have f4 := B5.frozen 4
        have f5 := B5.frozen 5
        have HO5 := Lib.hid (own_ge ho5 (by omega) (show g < _ from hg2))
        have HOW := Lib.hid (ho5.mono (base' := g + 1) (by exact hg2))
        have HX := Lib.hid (HX0.out w5)
        have HB5 := Lib.hid B5
        clear ho5 hb5 B5
        go_wp2_with fail
        refine hK.out _ _ (trivial) (fun hHeld => ?_)
        clear hK K
        try simp only [Act.put, List.setIfInBounds_toArray, List.set_cons_zero, List.set_cons_succ]
        refine wpAnyH_ready (rs := [9]) (by kernel_rfl) (by simp) ?_
        refine AllReadyH.cons2 (by simp only [List.getElem?_toArray, List.getElem?_cons_succ, List.getElem?_cons_zero]; first | done | exact rfl) (fun K hK => ?_)
        rw [if_pos (by rfl)]
        go_simp
        go_at_call 58
        have HX2 := HX.out
        refine (HX2 _ _).mono ?_
        clear HX2
        rintro e w6 ⟨rfl, rfl⟩
        go_wp2_with fail
        refine hK.out _ _ (trivial) (fun hHeld => ?_)
        clear hK K
        try simp only [Act.put, List.setIfInBounds_toArray, List.set_cons_zero, List.set_cons_succ]
        refine wpAnyH_take2 (i := 10) (by simp only [List.getElem?_toArray, List.getElem?_cons_succ, List.getElem?_cons_zero]; first | done | exact rfl) ⟨?_, by kernel_rfl, by kernel_rfl, by kernel_rfl, fun _ _ _ h => h, Or.inl ⟨by rfl, ?_⟩, by assumption, ?_⟩
        rotate_left 1
        · (intro w9 hSw; (try dsimp only at hSw); go_simp; try (with_reducible rfl))
        try simp only [Act.put, List.setIfInBounds_toArray, List.set_cons_zero, List.set_cons_succ]
        refine wpAnyH_take2 (i := 11) (by simp only [List.getElem?_toArray, List.getElem?_cons_succ, List.getElem?_cons_zero]; first | done | exact rfl) ⟨?_, by kernel_rfl, by kernel_rfl, by kernel_rfl, fun _ _ _ h => h, Or.inl ⟨by rfl, ?_⟩, by assumption, ?_⟩
        rotate_left 1
        · (intro w9 hSw; (try dsimp only at hSw); go_simp; try (with_reducible rfl))
        try simp only [Act.put, List.setIfInBounds_toArray, List.set_cons_zero, List.set_cons_succ]
        refine wpAnyH_ready (rs := [12]) (by kernel_rfl) (by simp) ?_
        refine AllReadyH.cons2 (by simp only [List.getElem?_toArray, List.getElem?_cons_succ, List.getElem?_cons_zero]; first | done | exact rfl) (fun K hK => ?_)
        rw [if_pos (by rfl)]
        go_simp
        refine hK.out _ _ (trivial) (fun hHeld => ?_)
        clear hK K
        try simp only [Act.put, List.setIfInBounds_toArray, List.set_cons_zero, List.set_cons_succ]
        refine wpAnyH_take2 (i := 13) (by simp only [List.getElem?_toArray, List.getElem?_cons_succ, List.getElem?_cons_zero]; first | done | exact rfl) ⟨?_, by kernel_rfl, by kernel_rfl, by kernel_rfl, fun _ _ _ h => h, Or.inl ⟨by rfl, ?_⟩, by assumption, ?_⟩
        rotate_left 1
        · (intro w9 hSw; (try dsimp only at hSw); go_simp; try (with_reducible rfl))
        try simp only [Act.put, List.setIfInBounds_toArray, List.set_cons_zero, List.set_cons_succ]
        refine wpAnyH_take2 (i := 14) (by simp only [List.getElem?_toArray, List.getElem?_cons_succ, List.getElem?_cons_zero]; first | done | exact rfl) ⟨?_, by kernel_rfl, by kernel_rfl, by kernel_rfl, fun _ _ _ h => h, Or.inl ⟨by rfl, ?_⟩, by assumption, ?_⟩
        rotate_left 1
        · (intro w9 hSw; (try dsimp only at hSw); go_simp; try (with_reducible rfl))
        try simp only [Act.put, List.setIfInBounds_toArray, List.set_cons_zero, List.set_cons_succ]
        refine wpAnyH_ready (rs := [15]) (by kernel_rfl) (by simp) ?_
        refine AllReadyH.cons2 (by simp only [List.getElem?_toArray, List.getElem?_cons_succ, List.getElem?_cons_zero]; first | done | exact rfl) (fun K hK => ?_)
        rw [if_pos (by rfl)]
        go_simp
        refine hK.out _ _ (trivial) (fun hHeld => ?_)
        clear hK K
        try simp only [Act.put, List.setIfInBounds_toArray, List.set_cons_zero, List.set_cons_succ]
        refine wpAnyH_done (by kernel_rfl) ?_ _
        refine NoPanic.normal ?_
        go_wp2_with fail
        go_ret
        rw [HE.out]
        have F1 := (HB5.out.set 4 (.slice A5 y c5)).set 5 (.int .i64 (Apd.exn (b.drop (y + 1)) : Int))
        have F2 := Below.setCell (p := ⟨g, 5, none⟩) (Below.setCell (p := ⟨g, 4, none⟩) hbw5 (Nat.le_refl _) (.slice A5 y c5)) (Nat.le_refl _) (.int .i64 (Apd.exn (b.drop (y + 1)) : Int))
        have F3 := (HOW.out.setCell (p := ⟨g, 4, none⟩) HO5.out (.slice A5 y c5)).setCell (p := ⟨g, 5, none⟩) HO5.out (.int .i64 (Apd.exn (b.drop (y + 1)) : Int))
        have hdd : (b.drop 1).drop y = b.drop (y + 1) := by rw [List.drop_drop, Nat.add_comm]
        clear HB5 HOW HO5 hbw5
        simp only [hdd, hlen]
        exact ⟨rfl, F2, fun _ => ⟨A5, c5, F1, F3⟩⟩
    · subst hq2
      rw [Nat.add_sub_cancel_left] at HLE
      have hqs : 1 ≤ 2 := by omega
      go_upto_region 23 with (go_at_call 59; refine HGT.out.mono ?_; rintro e w1 ⟨rfl, rfl⟩)
      clear k4 k5 k6 f4 f5
      refine wp_region_noPanic ?_
      refine wp_region_held_drew (S := fun _ => True) (by kernel_rfl) (trivial) (fun hHeld => ?_)
      refine wpAnyH_take2 (i := 0) (by simp only [List.getElem?_toArray, List.getElem?_cons_succ, List.getElem?_cons_zero]; first | done | exact rfl) ⟨?_, by kernel_rfl, by kernel_rfl, by kernel_rfl, fun _ _ _ h => h, Or.inl ⟨by rfl, ?_⟩, by assumption, ?_⟩
      rotate_left 1
      · (intro w9 hSw; (try dsimp only at hSw); go_simp; try (with_reducible rfl))
      try simp only [Act.put, List.setIfInBounds_toArray, List.set_cons_zero, List.set_cons_succ]
      refine wpAnyH_take2 (i := 1) (by simp only [List.getElem?_toArray, List.getElem?_cons_succ, List.getElem?_cons_zero]; first | done | exact rfl) ⟨?_, by kernel_rfl, by kernel_rfl, by kernel_rfl, fun _ _ _ h => h, Or.inl ⟨by rfl, ?_⟩, by assumption, ?_⟩
      rotate_left 1
      · (intro w9 hSw; (try dsimp only at hSw); go_simp; try (with_reducible rfl))
      try simp only [Act.put, List.setIfInBounds_toArray, List.set_cons_zero, List.set_cons_succ]
      refine wpAnyH_take2 (i := 2) (by simp only [List.getElem?_toArray, List.getElem?_cons_succ, List.getElem?_cons_zero]; first | done | exact rfl) ⟨?_, by kernel_rfl, by kernel_rfl, by kernel_rfl, fun _ _ _ h => h, Or.inl ⟨by rfl, ?_⟩, by assumption, ?_⟩
      rotate_left 1
      · (intro w9 hSw; (try dsimp only at hSw); go_simp; try (with_reducible rfl))
      try simp only [Act.put, List.setIfInBounds_toArray, List.set_cons_zero, List.set_cons_succ]
      refine wpAnyH_take2 (i := 3) (by simp only [List.getElem?_toArray, List.getElem?_cons_succ, List.getElem?_cons_zero]; first | done | exact rfl) ⟨?_, by kernel_rfl, by kernel_rfl, by kernel_rfl, fun _ _ _ h => h, Or.inl ⟨by rfl, ?_⟩, by assumption, ?_⟩
      rotate_left 1
      · (intro w9 hSw; (try dsimp only at hSw); go_simp; try (with_reducible rfl))
      try simp only [Act.put, List.setIfInBounds_toArray, List.set_cons_zero, List.set_cons_succ]
      refine wpAnyH_take2 (i := 4) (by simp only [List.getElem?_toArray, List.getElem?_cons_succ, List.getElem?_cons_zero]; first | done | exact rfl) ⟨?_, by kernel_rfl, by kernel_rfl, by kernel_rfl, fun _ _ _ h => h, Or.inl ⟨by rfl, ?_⟩, by assumption, ?_⟩
      rotate_left 1
      · (intro w9 hSw; (try dsimp only at hSw); go_simp; try (with_reducible rfl))
      try simp only [Act.put, List.setIfInBounds_toArray, List.set_cons_zero, List.set_cons_succ]
      refine wpAnyH_take2 (i := 6) (by simp only [List.getElem?_toArray, List.getElem?_cons_succ, List.getElem?_cons_zero]; first | done | exact rfl) ⟨?_, by kernel_rfl, by kernel_rfl, by kernel_rfl, fun _ _ _ h => h, Or.inl ⟨by rfl, ?_⟩, by assumption, ?_⟩
      rotate_left 1
      · (intro w9 hSw; (try dsimp only at hSw); go_simp; try (with_reducible rfl))
      try simp only [Act.put, List.setIfInBounds_toArray, List.set_cons_zero, List.set_cons_succ]
      refine wpAnyH_take2 (i := 7) (by simp only [List.getElem?_toArray, List.getElem?_cons_succ, List.getElem?_cons_zero]; first | done | exact rfl) ⟨?_, by kernel_rfl, by kernel_rfl, by kernel_rfl, fun _ _ _ h => h, Or.inl ⟨by rfl, ?_⟩, by assumption, ?_⟩
      rotate_left 1
      · (intro w9 hSw; (try dsimp only at hSw); go_simp; try (with_reducible rfl))
      try simp only [Act.put, List.setIfInBounds_toArray, List.set_cons_zero, List.set_cons_succ]
      refine wpAnyH_take2 (i := 8) (by simp only [List.getElem?_toArray, List.getElem?_cons_succ, List.getElem?_cons_zero]; first | done | exact rfl) ⟨?_, by kernel_rfl, by kernel_rfl, by kernel_rfl, fun _ _ _ h => h, Or.inl ⟨by rfl, ?_⟩, by assumption, ?_⟩
      rotate_left 1
      · (intro w9 hSw; (try dsimp only at hSw); go_simp; try (with_reducible rfl))
      try simp only [Act.put, List.setIfInBounds_toArray, List.set_cons_zero, List.set_cons_succ]
      refine wpAnyH_ready (rs := [5]) (by kernel_rfl) (by simp) ?_
      refine AllReadyH.cons2 (by simp only [List.getElem?_toArray, List.getElem?_cons_succ, List.getElem?_cons_zero]; first | done | exact rfl) (fun K hK => ?_)
      rw [if_pos (by rfl)]
      go_simp
      go_at_call 50
      refine (slices_Clone _ y (c - 1) _ _ (by exact HDA.out) (by omega)).mono ?_
      rintro e w5 ⟨A5, c5, rfl, ho5, hb5⟩
      have hlen : ((b.drop 1).take y).length = y := HDA.out.1
      have B5 : Blk w5 g 24 _ := Blk.below (HB2.out.drew) hb5 (by exact hg2)
      have hbw5 := HBW.out.drew.trans (hb5.mono (Nat.le_of_lt (by exact hg2)))
      have k4 := B5.cell 4
      have k5 := B5.cell 5
      have f4 := B5.frozen 4
      have f5 := B5.frozen 5
      have HO5 := Lib.hid (own_ge ho5 (by omega) (show g < _ from hg2))
      have HOW := Lib.hid (ho5.mono (base' := g + 1) (by exact hg2))
      have HX := Lib.hid (apdu_expected _ 1 _ _ w5 (Byt.more (B' := w5.heap.size) (Byt.below (w := w.drew) (w' := w5) (B := w.drew.heap.size) HLE.out hb5) hb5.size) hqs)
      have HB5 := Lib.hid B5
      clear ho5 hb5 B5
      go_wp2_with fail
      refine hK.out _ _ (trivial) (fun hHeld => ?_)
      clear hK K
      try simp only [Act.put, List.setIfInBounds_toArray, List.set_cons_zero, List.set_cons_succ]
      refine wpAnyH_ready (rs := [9]) (by kernel_rfl) (by simp) ?_
      refine AllReadyH.cons2 (by simp only [List.getElem?_toArray, List.getElem?_cons_succ, List.getElem?_cons_zero]; first | done | exact rfl) (fun K hK => ?_)
      rw [if_pos (by rfl)]
      go_simp
      go_at_call 58
      have HX2 := HX.out
      refine HX2.mono ?_
      clear HX2
      rintro e w6 ⟨rfl, rfl⟩
      go_wp2_with fail
      refine hK.out _ _ (trivial) (fun hHeld => ?_)
      clear hK K
      try simp only [Act.put, List.setIfInBounds_toArray, List.set_cons_zero, List.set_cons_succ]
      refine wpAnyH_take2 (i := 10) (by simp only [List.getElem?_toArray, List.getElem?_cons_succ, List.getElem?_cons_zero]; first | done | exact rfl) ⟨?_, by kernel_rfl, by kernel_rfl, by kernel_rfl, fun _ _ _ h => h, Or.inl ⟨by rfl, ?_⟩, by assumption, ?_⟩
      rotate_left 1
      · (intro w9 hSw; (try dsimp only at hSw); go_simp; try (with_reducible rfl))
      try simp only [Act.put, List.setIfInBounds_toArray, List.set_cons_zero, List.set_cons_succ]
      refine wpAnyH_take2 (i := 11) (by simp only [List.getElem?_toArray, List.getElem?_cons_succ, List.getElem?_cons_zero]; first | done | exact rfl) ⟨?_, by kernel_rfl, by kernel_rfl, by kernel_rfl, fun _ _ _ h => h, Or.inl ⟨by rfl, ?_⟩, by assumption, ?_⟩
      rotate_left 1
      · (intro w9 hSw; (try dsimp only at hSw); go_simp; try (with_reducible rfl))
      try simp only [Act.put, List.setIfInBounds_toArray, List.set_cons_zero, List.set_cons_succ]
      refine wpAnyH_ready (rs := [12]) (by kernel_rfl) (by simp) ?_
      refine AllReadyH.cons2 (by simp only [List.getElem?_toArray, List.getElem?_cons_succ, List.getElem?_cons_zero]; first | done | exact rfl) (fun K hK => ?_)
      rw [if_pos (by rfl)]
      go_simp
      refine hK.out _ _ (trivial) (fun hHeld => ?_)
      clear hK K
      try simp only [Act.put, List.setIfInBounds_toArray, List.set_cons_zero, List.set_cons_succ]
      refine wpAnyH_take2 (i := 13) (by simp only [List.getElem?_toArray, List.getElem?_cons_succ, List.getElem?_cons_zero]; first | done | exact rfl) ⟨?_, by kernel_rfl, by kernel_rfl, by kernel_rfl, fun _ _ _ h => h, Or.inl ⟨by rfl, ?_⟩, by assumption, ?_⟩
      rotate_left 1
      · (intro w9 hSw; (try dsimp only at hSw); go_simp; try (with_reducible rfl))
      try simp only [Act.put, List.setIfInBounds_toArray, List.set_cons_zero, List.set_cons_succ]
      refine wpAnyH_take2 (i := 14) (by simp only [List.getElem?_toArray, List.getElem?_cons_succ, List.getElem?_cons_zero]; first | done | exact rfl) ⟨?_, by kernel_rfl, by kernel_rfl, by kernel_rfl, fun _ _ _ h => h, Or.inl ⟨by rfl, ?_⟩, by assumption, ?_⟩
      rotate_left 1
      · (intro w9 hSw; (try dsimp only at hSw); go_simp; try (with_reducible rfl))
      try simp only [Act.put, List.setIfInBounds_toArray, List.set_cons_zero, List.set_cons_succ]
      refine wpAnyH_ready (rs := [15]) (by kernel_rfl) (by simp) ?_
      refine AllReadyH.cons2 (by simp only [List.getElem?_toArray, List.getElem?_cons_succ, List.getElem?_cons_zero]; first | done | exact rfl) (fun K hK => ?_)
      rw [if_pos (by rfl)]
      go_simp
      refine hK.out _ _ (trivial) (fun hHeld => ?_)
      clear hK K
      try simp only [Act.put, List.setIfInBounds_toArray, List.set_cons_zero, List.set_cons_succ]
      refine wpAnyH_done (by kernel_rfl) ?_ _
      refine NoPanic.normal ?_
      go_wp2_with fail
      go_ret
      rw [HE.out]
      have F1 := (HB5.out.set 4 (.slice A5 y c5)).set 5 (.int .i64 (Apd.exn (b.drop (y + 1)) : Int))
      have F2 := Below.setCell (p := ⟨g, 5, none⟩) (Below.setCell (p := ⟨g, 4, none⟩) hbw5 (Nat.le_refl _) (.slice A5 y c5)) (Nat.le_refl _) (.int .i64 (Apd.exn (b.drop (y + 1)) : Int))
      have F3 := (HOW.out.setCell (p := ⟨g, 4, none⟩) HO5.out (.slice A5 y c5)).setCell (p := ⟨g, 5, none⟩) HO5.out (.int .i64 (Apd.exn (b.drop (y + 1)) : Int))
      have hdd : (b.drop 1).drop y = b.drop (y + 1) := by rw [List.drop_drop, Nat.add_comm]
      clear HB5 HOW HO5 hbw5
      simp only [hdd, hlen]
      exact ⟨rfl, F2, fun _ => ⟨A5, c5, F1, F3⟩⟩
end Go.Proofs.Ytapfiapjefnjjaa
