/-
  The walk of the reference's Chain.
-/
import Derived.Test.YtapfiapjefnjjaaApdM
import Derived.Test.YtapfiapjefnjjaaApdN
import Derived.Test.YtapfiapjefnjjaaOctN
namespace Go.Proofs.Ytapfiapjefnjjaa
set_option linter.unusedSimpArgs false
open Go.RowKit

def Apd.pl (b : List UInt8) (m : Nat) : List (List UInt8) := if b.length ≤ m then [b] else Oct.split b m
theorem pl_short (b : List UInt8) (m : Nat) (h : b.length ≤ m) : Apd.pl b m = [b] := if_pos h
theorem pl_cons (b : List UInt8) (m : Nat) (h1 : 1 ≤ m) (h : m < b.length) : Apd.pl b m = b.take m :: Apd.pl (b.drop m) m := by
  unfold Apd.pl
  rw [if_neg (by omega), Oct.split_cons b m h1 (by omega)]
  by_cases h2 : (b.drop m).length ≤ m
  · rw [if_pos h2, split_last _ m h1 (by rw [List.length_drop]; omega) h2]
  · rw [if_neg h2]
theorem pl_ne (b : List UInt8) (m : Nat) (h1 : 1 ≤ m) : Apd.pl b m ≠ [] := by
  by_cases h : b.length ≤ m
  · rw [pl_short b m h]; simp
  · rw [pl_cons b m h1 (by omega)]; simp
theorem lst_cons (x : Apd.Cmd) (b : List UInt8) (l : List (List UInt8)) (h : l ≠ []) : Apd.lst x (b :: l) = Apd.mid x b :: Apd.lst x l := by
  cases l with
  | nil => exact absurd rfl h
  | cons c l => rfl
theorem bgo' {a w w' : World} (h : Below a.heap.size a w) (hb : Below w.heap.size w w') : Below a.heap.size a w' := bgo h hb
theorem lst_length (x : Apd.Cmd) (l : List (List UInt8)) : (Apd.lst x l).length = l.length := by
  induction l with
  | nil => rfl
  | cons b l ih =>
    by_cases h : l = []
    · subst h; rfl
    · rw [lst_cons x b l h, List.length_cons, List.length_cons, ih]

set_option maxRecDepth 100000 in
set_option maxHeartbeats 32000000 in
theorem ref04_Chain (cla ins p1 p2 : Int) (d : List UInt8) (le : Int) (long : Bool) (A : Option Addr) (n c : Nat) (p : Int) (w : World) (h : Byt w w.heap.size A n c d) (hn : n ≤ 1000000) :
    Calls Try.prog 35 #[cmdV cla ins p1 p2 A n c le long, .int .i64 p] w (ChRes w (Apd.chL ⟨cla, ins, p1, p2, d, le, long⟩ p) (Apd.chE ⟨cla, ins, p1, p2, d, le, long⟩ p)) := by
  have HBB := Lib.hid (fun o => (Below.refl w.heap.size w).alloc (Nat.le_refl _) o)
  have HNew := Lib.hid (Blk.new w 24 #[I64 cla, I64 ins, I64 p1, I64 p2, .slice A n c, I64 le, .bool long])
  have hl := h.1
  have hC := fun u => ref04_Check cla ins p1 p2 A n c le long u
  have hE : Apd.chE ⟨cla, ins, p1, p2, d, le, long⟩ p = if Apd.chk cla ins p1 p2 n le long ≠ 0 then Apd.chk cla ins p1 p2 n le long else if p < 1 ∨ 255 < p then 1 else if ¬ (Apd.cok cla = true ∧ cla / 16 % 2 ≠ 1) then 4 else 0 := by rw [← hl]; rfl
  have hL : Apd.chL ⟨cla, ins, p1, p2, d, le, long⟩ p = if Apd.chE ⟨cla, ins, p1, p2, d, le, long⟩ p = 0 then Apd.lst ⟨cla, ins, p1, p2, d, le, long⟩ (Apd.pcs ⟨cla, ins, p1, p2, d, le, long⟩ p.toNat) else [] := rfl
  unfold cmdV at hC ⊢
  have HY := Lib.hid h
  have HZ : Apd.chk cla ins p1 p2 n le long = 0 → 0 ≤ cla ∧ cla ≤ 254 := fun e => (Apd.chk_zero e).1
  generalize Apd.chk cla ins p1 p2 n le long = z at *
  have HC := Lib.hid hC
  have HE := Lib.hid hE
  have HL := Lib.hid hL
  clear hC hE hL h hl
  by_cases hz : z = 0
  case neg =>
    have hz2 : (z != 0) = true := bne_iff_ne.2 hz
    have e1 : Apd.chE ⟨cla, ins, p1, p2, d, le, long⟩ p = z := by rw [HE.out, if_pos hz]
    have e2 : Apd.chL ⟨cla, ins, p1, p2, d, le, long⟩ p = [] := by rw [HL.out, e1, if_neg hz]
    have E1 := Lib.hid e1
    have E2 := Lib.hid e2
    clear e1 e2 hz
    go_enter Try.func35, Try.ntmps35
    go_wp2_with ((with_reducible show wpList _ _ _ (Oper.mk _ (Op.load 24 (Operand.tmp 2)) _ _ _ _ :: _) _ _); refine wpList_load_row rfl 24 (.tmp 2) rfl w.heap.size rfl 24 _ (0, 0) _ HNew.out Try.underlying24 rfl (by kernel_rfl) ?_)
    go_at_call 15
    refine (HC.out _).mono ?_
    rintro e w2 ⟨rfl, hb2⟩
    go_wp2_with fail
    go_ret2
    rw [E1.out, E2.out]
    exact ⟨none, 0, [], rfl, rfl, ⟨Row.nil _ _ _, fun v hv => (by cases hv)⟩, (HBB.out _).trans (hb2.mono (HBB.out _).size)⟩
  subst hz
  obtain ⟨hc0, hc254⟩ := HZ rfl
  clear HZ
  by_cases hp : p < 1 ∨ 255 < p
  · have e1 : Apd.chE ⟨cla, ins, p1, p2, d, le, long⟩ p = 1 := by rw [HE.out, if_neg (fun e => e rfl), if_pos hp]
    have e2 : Apd.chL ⟨cla, ins, p1, p2, d, le, long⟩ p = [] := by rw [HL.out, e1, if_neg (by decide)]
    have E1 := Lib.hid e1
    have E2 := Lib.hid e2
    clear e1 e2
    rcases (show p < 1 ∨ (1 ≤ p ∧ 255 < p) by omega) with hp1 | ⟨hp1, hp2⟩
    all_goals
      clear hp
      go_enter Try.func35, Try.ntmps35
      go_wp2_with ((with_reducible show wpList _ _ _ (Oper.mk _ (Op.load 24 (Operand.tmp 2)) _ _ _ _ :: _) _ _); refine wpList_load_row rfl 24 (.tmp 2) rfl w.heap.size rfl 24 _ (0, 0) _ HNew.out Try.underlying24 rfl (by kernel_rfl) ?_)
      go_at_call 15
      refine (HC.out _).mono ?_
      rintro e w2 ⟨rfl, hb2⟩
      go_wp2_with fail
      go_ret2
      rw [E1.out, E2.out]
      exact ⟨none, 0, [], rfl, rfl, ⟨Row.nil _ _ _, fun v hv => (by cases hv)⟩, (HBB.out _).trans (hb2.mono (HBB.out _).size)⟩
  obtain ⟨m, rfl⟩ := Int.eq_ofNat_of_zero_le (show 0 ≤ p by omega)
  have hm1 : 1 ≤ m := by omega
  have hm2 : m ≤ 255 := by omega
  have hCl := fun u => ref04_Class cla u
  by_cases hk : Apd.cok cla = true ∧ cla / 16 % 2 ≠ 1
  case neg =>
    have e1 : Apd.chE ⟨cla, ins, p1, p2, d, le, long⟩ (m : Int) = 4 := by rw [HE.out, if_neg (fun e => e rfl), if_neg hp, if_pos hk]
    have e2 : Apd.chL ⟨cla, ins, p1, p2, d, le, long⟩ (m : Int) = [] := by rw [HL.out, e1, if_neg (by decide)]
    have E1 := Lib.hid e1
    have E2 := Lib.hid e2
    have hk2 : Apd.cok cla = false ∨ (Apd.cok cla = true ∧ (cla / 16 % 2 == 1) = true) := by
      cases hc : Apd.cok cla with
      | false => exact .inl rfl
      | true => exact .inr ⟨rfl, by rw [hc] at hk; simpa using hk⟩
    clear e1 e2 hk hp
    rcases hk2 with hk | ⟨hk, hq⟩
    · have e3 : Apd.clsV cla = infoV 0 false false false := by unfold Apd.clsV; rw [hk]; rfl
      rw [e3, hk] at hCl
      unfold infoV at hCl
      clear e3 hk
      have HCl := Lib.hid hCl
      clear hCl
      go_enter Try.func35, Try.ntmps35
      go_wp2_with ((with_reducible show wpList _ _ _ (Oper.mk _ (Op.load 24 (Operand.tmp 2)) _ _ _ _ :: _) _ _); refine wpList_load_row rfl 24 (.tmp 2) rfl w.heap.size rfl 24 _ (0, 0) _ HNew.out Try.underlying24 rfl (by kernel_rfl) ?_)
      go_at_call 15
      refine (HC.out _).mono ?_
      rintro e w2 ⟨rfl, hb2⟩
      have B2 := HNew.out.below hb2 (HNew.out.lt)
      have k0 := B2.cell 0
      have HW2 := Lib.hid ((HBB.out _).trans (hb2.mono (HBB.out _).size))
      clear hb2 B2
      go_wp2_with fail
      go_at_call 20
      refine (HCl.out _).mono ?_
      rintro e w3 ⟨rfl, hb3⟩
      have hw3 := HW2.out.trans (hb3.mono HW2.out.size)
      clear hb3
      go_wp2_with fail
      go_ret2
      rw [E1.out, E2.out]
      exact ⟨none, 0, [], rfl, rfl, ⟨Row.nil _ _ _, fun v hv => (by cases hv)⟩, hw3.alloc hw3.size _⟩
    · have e3 : Apd.clsV cla = infoV (cla % 4) (cla / 4 % 2 == 1) (cla / 16 % 2 == 1) (cla / 128 == 1) := by unfold Apd.clsV; rw [hk]; rfl
      rw [e3, hk, hq] at hCl
      unfold infoV at hCl
      clear e3 hk hq
      have HCl := Lib.hid hCl
      clear hCl
      go_enter Try.func35, Try.ntmps35
      go_wp2_with ((with_reducible show wpList _ _ _ (Oper.mk _ (Op.load 24 (Operand.tmp 2)) _ _ _ _ :: _) _ _); refine wpList_load_row rfl 24 (.tmp 2) rfl w.heap.size rfl 24 _ (0, 0) _ HNew.out Try.underlying24 rfl (by kernel_rfl) ?_)
      go_at_call 15
      refine (HC.out _).mono ?_
      rintro e w2 ⟨rfl, hb2⟩
      have B2 := HNew.out.below hb2 (HNew.out.lt)
      have k0 := B2.cell 0
      have HW2 := Lib.hid ((HBB.out _).trans (hb2.mono (HBB.out _).size))
      clear hb2 B2
      go_wp2_with fail
      go_at_call 20
      refine (HCl.out _).mono ?_
      rintro e w3 ⟨rfl, hb3⟩
      have hw3 := HW2.out.trans (hb3.mono HW2.out.size)
      clear hb3
      go_wp2_with fail
      go_ret2
      rw [E1.out, E2.out]
      exact ⟨none, 0, [], rfl, rfl, ⟨Row.nil _ _ _, fun v hv => (by cases hv)⟩, hw3.alloc hw3.size _⟩
  obtain ⟨hk, hq⟩ := hk
  have hqf : (cla / 16 % 2 == 1) = false := beq_eq_false_iff_ne.2 hq
  have e1 : Apd.chE ⟨cla, ins, p1, p2, d, le, long⟩ (m : Int) = 0 := by rw [HE.out, if_neg (fun e => e rfl), if_neg hp, if_neg (fun e => e ⟨hk, hq⟩)]
  have e2 : Apd.chL ⟨cla, ins, p1, p2, d, le, long⟩ (m : Int) = Apd.lst ⟨cla, ins, p1, p2, d, le, long⟩ (Apd.pcs ⟨cla, ins, p1, p2, d, le, long⟩ m) := by rw [HL.out, e1, if_pos rfl]; rfl
  have e3 : Apd.clsV cla = infoV (cla % 4) (cla / 4 % 2 == 1) (cla / 16 % 2 == 1) (cla / 128 == 1) := by unfold Apd.clsV; rw [hk]; rfl
  rw [e3, hk, hqf] at hCl
  unfold infoV at hCl
  have E1 := Lib.hid e1
  have HCl := Lib.hid hCl
  clear e1 e3 hCl hk hq hqf hp HE HL
  have hl := HY.out.1
  have e4 : Apd.chL ⟨cla, ins, p1, p2, d, le, long⟩ (m : Int) = Apd.lst ⟨cla, ins, p1, p2, d, le, long⟩ (Apd.pl d m) := e2
  have E2 := Lib.hid e4
  obtain ⟨ti, hti, hz0, hz1, hz2⟩ := info_parts c_info
  obtain ⟨tb, htb, hy0, hy1, hy2⟩ := info_parts o_u8
  clear e2 e4
  go_enter Try.func35, Try.ntmps35
  go_wp2_with ((with_reducible show wpList _ _ _ (Oper.mk _ (Op.load 24 (Operand.tmp 2)) _ _ _ _ :: _) _ _); refine wpList_load_row rfl 24 (.tmp 2) rfl w.heap.size rfl 24 _ (0, 0) _ HNew.out Try.underlying24 rfl (by kernel_rfl) ?_)
  go_at_call 15
  refine (HC.out _).mono ?_
  rintro e w2 ⟨rfl, hb2⟩
  have B2 := HNew.out.below hb2 (HNew.out.lt)
  have k0 := B2.cell 0
  have HW2 := Lib.hid ((HBB.out _).trans (hb2.mono (HBB.out _).size))
  have HB2 := Lib.hid B2
  clear hb2 B2
  go_wp2_with fail
  go_at_call 20
  refine (HCl.out _).mono ?_
  rintro e w3 ⟨rfl, hb3⟩
  have hB3 := HB2.out.below hb3 HB2.out.lt
  have hw3 := HW2.out.trans (hb3.mono HW2.out.size)
  have hkk : ∀ o, (w3.alloc o).cell? ⟨w.heap.size, 4, none⟩ = some (.slice A n c) := fun o => (hB3.alloc o).cell 4
  have HB4 := Lib.hid (fun o => hB3.alloc o)
  have HW4 := Lib.hid (fun o => bal hw3 o)
  clear hb3 hB3 hw3 k0 HW2 HB2 HCl HC HNew HBB
  go_wp2_with fail
  generalize hw4 : w3.alloc _ = w4 at *
  have HB4 : Hid (Blk w4 w.heap.size 24 #[I64 cla, I64 ins, I64 p1, I64 p2, .slice A n c, I64 le, .bool long]) := by rw [← hw4]; exact HB4.out _
  have HW4 : Hid (Below w.heap.size w w4) := by rw [← hw4]; exact HW4.out _
  clear hkk hw4
  have hS : Hid (∀ u : World, Below w4.heap.size w4 u → (u.cell? ⟨w.heap.size, 0, none⟩ = some (I64 cla) ∧ u.cell? ⟨w.heap.size, 1, none⟩ = some (I64 ins) ∧ u.cell? ⟨w.heap.size, 2, none⟩ = some (I64 p1) ∧ u.cell? ⟨w.heap.size, 3, none⟩ = some (I64 p2) ∧ u.cell? ⟨w.heap.size, 5, none⟩ = some (I64 le) ∧ u.cell? ⟨w.heap.size, 6, none⟩ = some (.bool long)) ∧ Below w4.heap.size w4 u) := fun u hu =>
    ⟨⟨(HB4.out.below hu HB4.out.lt).cell 0, (HB4.out.below hu HB4.out.lt).cell 1, (HB4.out.below hu HB4.out.lt).cell 2, (HB4.out.below hu HB4.out.lt).cell 3, (HB4.out.below hu HB4.out.lt).cell 5, (HB4.out.below hu HB4.out.lt).cell 6⟩, hu⟩
  go_loopg [9, 10] n (fun g v rest wr => ∃ (A2 : Option Addr) (k c2 : Nat) (vs : List CV) (A' : Option Addr) (r c' : Nat) (rl : List UInt8), r ≤ g ∧ r ≤ n ∧ k + r ≤ n ∧ v = .slice A2 k c2 ∧ rest = .slice A' r c' ∧ Hid (vs.length = k) ∧
    Hid (vs.map CV.cmd ++ Apd.lst ⟨cla, ins, p1, p2, d, le, long⟩ (Apd.pl rl m) = Apd.lst ⟨cla, ins, p1, p2, d, le, long⟩ (Apd.pl d m)) ∧ Byt w w.heap.size A' r c' rl ∧ Own wr w4.heap.size 24 7 A2 k c2 (ccells vs) ∧ (∀ v ∈ vs, Own wr w4.heap.size 5 1 v.d.a v.d.n v.d.c (bcells v.d.bs)) ∧ Below w4.heap.size w4 wr)
  case atStart => exact ⟨none, 0, 0, [], A, n, c, d, Nat.le_refl _, Nat.le_refl _, by omega, rfl, rfl, rfl, Lib.hid rfl, HY.out, Own.none_ _ _ _ _ _, fun v hv => (by cases hv), Below.refl _ _⟩
  case round =>
    obtain ⟨A2, k, c2, vs, A', r, c', rl, hrg, hrn, hkr, rfl, rfl, hlv, heq, hy, hown, hall, hbw⟩ := hrel
    have hrl := Lib.hid hy.1
    have hrc := hy.2.1
    by_cases hr : m < r
    · obtain ⟨b1, o1, rfl, hb1⟩ := hy.at_ (by omega)
      obtain ⟨g, rfl⟩ : ∃ g, gk = g + 1 := ⟨gk - 1, by omega⟩
      have HP := Lib.hid (pl_cons rl m hm1 (by rw [hrl.out]; exact hr))
      have HT := Lib.hid (hy.take m c' (by omega) (by omega))
      have HR := Lib.hid (hy.drop m (by omega))
      have cne : ¬ c' = m := by omega
      have hmc : m ≤ c' := by omega
      have v1 : IntKind.i64.wrap (cla + 16) = cla + 16 := IntWalk.i64_in _ (by omega)
      have cne0 : ¬ c' = 0 := by omega
      clear hy
      go_upto_region 12 with fail
      refine wp_region_noPanic ?_
      refine wp_region_held_drew (S := fun u => (u.cell? ⟨w.heap.size, 0, none⟩ = some (I64 cla) ∧ u.cell? ⟨w.heap.size, 1, none⟩ = some (I64 ins) ∧ u.cell? ⟨w.heap.size, 2, none⟩ = some (I64 p1) ∧ u.cell? ⟨w.heap.size, 3, none⟩ = some (I64 p2) ∧ u.cell? ⟨w.heap.size, 5, none⟩ = some (I64 le) ∧ u.cell? ⟨w.heap.size, 6, none⟩ = some (.bool long)) ∧ Below w4.heap.size w4 u) (by kernel_rfl) (by exact hS.out _ hbw.drew) (fun hHeld => ?_)
      refine wpAnyH_take2 (i := 0) (by simp only [List.getElem?_toArray, List.getElem?_cons_succ, List.getElem?_cons_zero]; first | done | exact rfl) ⟨?_, by kernel_rfl, by kernel_rfl, by kernel_rfl, fun _ _ _ h => h, Or.inl ⟨by rfl, ?_⟩, by assumption, ?_⟩
      rotate_left 1
      · (intro w9 hSw; (try dsimp only at hSw); go_simp; try (with_reducible rfl))
      try simp only [Act.put, List.setIfInBounds_toArray, List.set_cons_zero, List.set_cons_succ]
      refine wpAnyH_take2 (i := 1) (by simp only [List.getElem?_toArray, List.getElem?_cons_succ, List.getElem?_cons_zero]; first | done | exact rfl) ⟨?_, by kernel_rfl, by kernel_rfl, by kernel_rfl, fun _ _ _ h => h, Or.inl ⟨by rfl, ?_⟩, by assumption, ?_⟩
      rotate_left 1
      · (intro w9 hSw; (try dsimp only at hSw); go_simp; try (with_reducible rfl))
      try simp only [Act.put, List.setIfInBounds_toArray, List.set_cons_zero, List.set_cons_succ]
      refine wpAnyH_take2 (i := 2) (by simp only [List.getElem?_toArray, List.getElem?_cons_succ, List.getElem?_cons_zero]; first | done | exact rfl) ⟨?_, by kernel_rfl, by kernel_rfl, by kernel_rfl, fun _ _ _ h => h, Or.inl ⟨by rfl, ?_⟩, by assumption, ?_⟩
      rotate_left 1
      · (intro w9 hSw; (try dsimp only at hSw); go_simp; try (with_reducible rfl))
      try simp only [Act.put, List.setIfInBounds_toArray, List.set_cons_zero, List.set_cons_succ]
      refine wpAnyH_take2 (i := 3) (by simp only [List.getElem?_toArray, List.getElem?_cons_succ, List.getElem?_cons_zero]; first | done | exact rfl) ⟨?_, by kernel_rfl, by kernel_rfl, by kernel_rfl, fun _ _ _ h => h, Or.inl ⟨by rfl, ?_⟩, by assumption, ?_⟩
      rotate_left 1
      · (intro w9 hSw; (try dsimp only at hSw); go_simp; try (with_reducible rfl))
      try simp only [Act.put, List.setIfInBounds_toArray, List.set_cons_zero, List.set_cons_succ]
      refine wpAnyH_take2 (i := 4) (by simp only [List.getElem?_toArray, List.getElem?_cons_succ, List.getElem?_cons_zero]; first | done | exact rfl) ⟨?_, by kernel_rfl, by kernel_rfl, by kernel_rfl, fun _ _ _ h => h, Or.inl ⟨by rfl, ?_⟩, by assumption, ?_⟩
      rotate_left 1
      · (intro w9 hSw; (try dsimp only at hSw); go_simp; try (with_reducible rfl))
      try simp only [Act.put, List.setIfInBounds_toArray, List.set_cons_zero, List.set_cons_succ]
      refine wpAnyH_take2 (i := 5) (by simp only [List.getElem?_toArray, List.getElem?_cons_succ, List.getElem?_cons_zero]; first | done | exact rfl) ⟨?_, by kernel_rfl, by kernel_rfl, by kernel_rfl, fun _ _ _ h => h, Or.inl ⟨by rfl, ?_⟩, by assumption, ?_⟩
      rotate_left 1
      · (intro w9 hSw; (try dsimp only at hSw); go_simp; try (with_reducible rfl))
      try simp only [Act.put, List.setIfInBounds_toArray, List.set_cons_zero, List.set_cons_succ]
      refine wpAnyH_take2 (i := 6) (by simp only [List.getElem?_toArray, List.getElem?_cons_succ, List.getElem?_cons_zero]; first | done | exact rfl) ⟨?_, by kernel_rfl, by kernel_rfl, by kernel_rfl, fun _ _ _ h => h, Or.inl ⟨by rfl, ?_⟩, by assumption, ?_⟩
      rotate_left 1
      · (intro w9 hSw; (try dsimp only at hSw); go_simp; try (with_reducible rfl))
      try simp only [Act.put, List.setIfInBounds_toArray, List.set_cons_zero, List.set_cons_succ]
      refine wpAnyH_take2 (i := 7) (by simp only [List.getElem?_toArray, List.getElem?_cons_succ, List.getElem?_cons_zero]; first | done | exact rfl) ⟨?_, by kernel_rfl, by kernel_rfl, by kernel_rfl, fun _ _ _ h => h, Or.inl ⟨by rfl, ?_⟩, by assumption, ?_⟩
      rotate_left 1
      · (intro w9 hSw; (try dsimp only at hSw); go_simp; try (with_reducible rfl))
      try simp only [Act.put, List.setIfInBounds_toArray, List.set_cons_zero, List.set_cons_succ]
      refine wpAnyH_take2 (i := 8) (by simp only [List.getElem?_toArray, List.getElem?_cons_succ, List.getElem?_cons_zero]; first | done | exact rfl) ⟨?_, by kernel_rfl, by kernel_rfl, by kernel_rfl, fun _ _ _ h => h, Or.inl ⟨by rfl, ?_⟩, by assumption, ?_⟩
      rotate_left 1
      · (intro w9 hSw; (try dsimp only at hSw); go_simp; try (with_reducible rfl))
      try simp only [Act.put, List.setIfInBounds_toArray, List.set_cons_zero, List.set_cons_succ]
      refine wpAnyH_take2 (i := 9) (by simp only [List.getElem?_toArray, List.getElem?_cons_succ, List.getElem?_cons_zero]; first | done | exact rfl) ⟨?_, by kernel_rfl, by kernel_rfl, by kernel_rfl, fun _ _ _ h => h, Or.inl ⟨by rfl, ?_⟩, by assumption, ?_⟩
      rotate_left 1
      · (intro w9 hSw; (try dsimp only at hSw); go_simp; try (with_reducible rfl))
      try simp only [Act.put, List.setIfInBounds_toArray, List.set_cons_zero, List.set_cons_succ]
      refine wpAnyH_take2 (i := 11) (by simp only [List.getElem?_toArray, List.getElem?_cons_succ, List.getElem?_cons_zero]; first | done | exact rfl) ⟨?_, by kernel_rfl, by kernel_rfl, by kernel_rfl, fun _ _ _ h => h, Or.inl ⟨by rfl, ?_⟩, by assumption, ?_⟩
      rotate_left 1
      · (intro w9 hSw; (try dsimp only at hSw); go_simp; try (with_reducible rfl))
      try simp only [Act.put, List.setIfInBounds_toArray, List.set_cons_zero, List.set_cons_succ]
      refine wpAnyH_take2 (i := 12) (by simp only [List.getElem?_toArray, List.getElem?_cons_succ, List.getElem?_cons_zero]; first | done | exact rfl) ⟨?_, by kernel_rfl, by kernel_rfl, by kernel_rfl, fun _ _ _ h => h, Or.inl ⟨by rfl, ?_⟩, by assumption, ?_⟩
      rotate_left 1
      · (intro w9 hSw; (try dsimp only at hSw); go_simp; try (with_reducible rfl))
      try simp only [Act.put, List.setIfInBounds_toArray, List.set_cons_zero, List.set_cons_succ]
      refine wpAnyH_take2 (i := 13) (by simp only [List.getElem?_toArray, List.getElem?_cons_succ, List.getElem?_cons_zero]; first | done | exact rfl) ⟨?_, by kernel_rfl, by kernel_rfl, by kernel_rfl, fun _ _ _ h => h, Or.inl ⟨by rfl, ?_⟩, by assumption, ?_⟩
      rotate_left 1
      · (intro w9 hSw; (try dsimp only at hSw); go_simp; try (with_reducible rfl))
      try simp only [Act.put, List.setIfInBounds_toArray, List.set_cons_zero, List.set_cons_succ]
      refine wpAnyH_ready (rs := [10]) (by kernel_rfl) (by simp) ?_
      refine AllReadyH.cons2 (by simp only [List.getElem?_toArray, List.getElem?_cons_succ, List.getElem?_cons_zero]; first | done | exact rfl) (fun K hK => ?_)
      rw [if_pos (by rfl)]
      go_simp
      have W1 := Lib.hid (bal hbw.drew (.cells #[] 5))
      refine hK.out _ _ (by exact hS.out _ W1.out) (fun hHeld => ?_)
      clear hK K
      try simp only [Act.put, List.setIfInBounds_toArray, List.set_cons_zero, List.set_cons_succ]
      refine wpAnyH_ready (rs := [14]) (by kernel_rfl) (by simp) ?_
      refine AllReadyH.cons2 (by simp only [List.getElem?_toArray, List.getElem?_cons_succ, List.getElem?_cons_zero]; first | done | exact rfl) (fun K hK => ?_)
      refine step_append _ rfl (.tmp 50) (.tmp 53) 22 rfl w4.heap.size 5 tb _ 1 1 Try.underlying22 htb hy0 hy1 hy2 rfl (by omega) _ 0 0 [] rfl (Own.none_ _ _ _ _ _) w.heap.size (some ⟨b1, o1, none⟩) m c' (bcells (rl.take m)) rfl (by exact (HT.out.below (bgo' HW4.out W1.out)).2.2) (by rw [length_bcells, HT.out.1]; omega) (bcells_one _) (by unfold maxLen; omega) (by omega) (by exact W1.out.size) ?_
      intro A5 c5 w5 hown5 hg5 hat5
      rw [Nat.zero_add, List.nil_append] at hown5
      rw [Nat.zero_add]
      have hb5 := (Own.none_ _ _ 5 1 _).grown hg5 (Below.refl _ _) (Nat.le_refl _)
      have W5 := Lib.hid (bgo W1.out hb5)
      have O5 := Lib.hid hown5
      have V5 := Lib.hid (((hown.drew).alloc (.cells #[] 5)).below hb5)
      have A5' := Lib.hid (fun v hv => (((hall v hv).drew).alloc (.cells #[] 5)).below hb5)
      clear hown5 hg5 hat5 hb5 W1
      refine hK.out _ _ (by exact hS.out _ W5.out) (fun hHeld => ?_)
      clear hK K
      try simp only [Act.put, List.setIfInBounds_toArray, List.set_cons_zero, List.set_cons_succ]
      refine wpAnyH_take2 (i := 15) (by simp only [List.getElem?_toArray, List.getElem?_cons_succ, List.getElem?_cons_zero]; first | done | exact rfl) ⟨?_, by kernel_rfl, by kernel_rfl, by kernel_rfl, fun _ _ _ h => h, Or.inl ⟨by rfl, ?_⟩, by assumption, ?_⟩
      rotate_left 1
      · (intro w9 hSw; (try dsimp only at hSw); go_simp; try (with_reducible rfl))
      try simp only [Act.put, List.setIfInBounds_toArray, List.set_cons_zero, List.set_cons_succ]
      refine wpAnyH_ready (rs := [16]) (by kernel_rfl) (by simp) ?_
      refine AllReadyH.cons2 (by simp only [List.getElem?_toArray, List.getElem?_cons_succ, List.getElem?_cons_zero]; first | done | exact rfl) (fun K hK => ?_)
      rw [if_pos (by rfl)]
      go_simp
      have W6 := Lib.hid (bal W5.out (.cells #[.int .i64 (cla + 16), I64 ins, I64 p1, I64 p2, .slice A5 m c5, .int .i64 0, .bool false] 24))
      have V6 := Lib.hid (V5.out.alloc (.cells #[.int .i64 (cla + 16), I64 ins, I64 p1, I64 p2, .slice A5 m c5, .int .i64 0, .bool false] 24))
      have O6 := Lib.hid (O5.out.alloc (.cells #[.int .i64 (cla + 16), I64 ins, I64 p1, I64 p2, .slice A5 m c5, .int .i64 0, .bool false] 24))
      have A6 := Lib.hid (fun v hv => (A5'.out v hv).alloc (.cells #[.int .i64 (cla + 16), I64 ins, I64 p1, I64 p2, .slice A5 m c5, .int .i64 0, .bool false] 24))
      have R6 := Lib.hid (Row.new (t := 24) w5 (cs := #[.int .i64 (cla + 16), I64 ins, I64 p1, I64 p2, .slice A5 m c5, .int .i64 0, .bool false]) (l := (midV cla ins p1 p2 ⟨A5, m, c5, rl.take m⟩).cells) rfl)
      refine hK.out _ _ (by exact hS.out _ W6.out) (fun hHeld => ?_)
      clear hK K
      try simp only [Act.put, List.setIfInBounds_toArray, List.set_cons_zero, List.set_cons_succ]
      refine wpAnyH_ready (rs := [17]) (by kernel_rfl) (by simp) ?_
      refine AllReadyH.cons2 (by simp only [List.getElem?_toArray, List.getElem?_cons_succ, List.getElem?_cons_zero]; first | done | exact rfl) (fun K hK => ?_)
      refine step_append _ rfl (.tmp 40) (.tmp 56) 53 rfl w4.heap.size 24 ti _ 7 72 Try.underlying53 hti hz0 hz1 hz2 rfl (by omega) A2 k c2 (ccells vs) rfl V6.out (w5.heap.size + 1) (some ⟨w5.heap.size, 0, none⟩) 1 1 (midV cla ins p1 p2 ⟨A5, m, c5, rl.take m⟩).cells rfl R6.out (by simp [CV.cells]) (CV.ones _) (by unfold maxLen; omega) (by omega) (by exact W6.out.size) ?_
      intro A7 c7 w7 hown7 hg7 hat7
      have W7 := Lib.hid (V6.out.grown hg7 W6.out W6.out.size)
      have V7 := Lib.hid hown7
      have O7 := Lib.hid (O6.out.kept hg7 ((Own.ne O6.out V6.out (by decide)).imp_right fun hh q hq => hh q hq))
      have A7' := Lib.hid (fun v hv => (A6.out v hv).kept hg7 ((Own.ne (A6.out v hv) V6.out (by decide)).imp_right fun hh q hq => hh q hq))
      clear hown7 hg7 hat7 hown hall hbw
      refine hK.out _ _ (by exact hS.out _ W7.out) (fun hHeld => ?_)
      clear hK K
      try simp only [Act.put, List.setIfInBounds_toArray, List.set_cons_zero, List.set_cons_succ]
      refine wpAnyH_take2 (i := 18) (by simp only [List.getElem?_toArray, List.getElem?_cons_succ, List.getElem?_cons_zero]; first | done | exact rfl) ⟨?_, by kernel_rfl, by kernel_rfl, by kernel_rfl, fun _ _ _ h => h, Or.inl ⟨by rfl, ?_⟩, by assumption, ?_⟩
      rotate_left 1
      · (intro w9 hSw; (try dsimp only at hSw); go_simp; try (with_reducible rfl))
      try simp only [Act.put, List.setIfInBounds_toArray, List.set_cons_zero, List.set_cons_succ]
      refine wpAnyH_done (by kernel_rfl) ?_ _
      refine NoPanic.normal ?_
      clear hHeld
      have hrm : m ≤ r := by omega
      go_wp2_with fail
      go_roundg g
      case measure => omega
      case rel =>
        refine ⟨A7, k + 1, c7, vs ++ [midV cla ins p1 p2 ⟨A5, m, c5, rl.take m⟩], some ⟨b1, o1 + m, none⟩, r - m, c' - m, rl.drop m, by omega, by omega, by omega, rfl, by first | rfl | simp, by show _ = _; rw [List.length_append, hlv.out]; rfl, ?_, HR.out, by rw [ccells_append, ccells_one]; exact V7.out, ?_, W7.out⟩
        · show _ = _
          rw [← heq.out, HP.out, lst_cons _ _ _ (pl_ne _ _ hm1), List.map_append, List.append_assoc]; rfl
        · intro v hv
          rcases List.mem_append.1 hv with hv | hv
          · exact A7'.out v hv
          · obtain rfl := List.mem_singleton.1 hv
            exact O7.out
    · have HP := Lib.hid (pl_short rl m (by rw [hrl.out]; omega))
      have HYR := Lib.hid hy
      clear hy
      go_upto_region 14 with fail
      refine wp_region_noPanic ?_
      refine wp_region_held_drew (S := fun u => (u.cell? ⟨w.heap.size, 0, none⟩ = some (I64 cla) ∧ u.cell? ⟨w.heap.size, 1, none⟩ = some (I64 ins) ∧ u.cell? ⟨w.heap.size, 2, none⟩ = some (I64 p1) ∧ u.cell? ⟨w.heap.size, 3, none⟩ = some (I64 p2) ∧ u.cell? ⟨w.heap.size, 5, none⟩ = some (I64 le) ∧ u.cell? ⟨w.heap.size, 6, none⟩ = some (.bool long)) ∧ Below w4.heap.size w4 u) (by kernel_rfl) (by exact hS.out _ hbw.drew) (fun hHeld => ?_)
      refine wpAnyH_take2 (i := 0) (by simp only [List.getElem?_toArray, List.getElem?_cons_succ, List.getElem?_cons_zero]; first | done | exact rfl) ⟨?_, by kernel_rfl, by kernel_rfl, by kernel_rfl, fun _ _ _ h => h, Or.inl ⟨by rfl, ?_⟩, by assumption, ?_⟩
      rotate_left 1
      · (intro w9 hSw; (try dsimp only at hSw); go_simp; try (with_reducible rfl))
      try simp only [Act.put, List.setIfInBounds_toArray, List.set_cons_zero, List.set_cons_succ]
      refine wpAnyH_take2 (i := 1) (by simp only [List.getElem?_toArray, List.getElem?_cons_succ, List.getElem?_cons_zero]; first | done | exact rfl) ⟨?_, by kernel_rfl, by kernel_rfl, by kernel_rfl, fun _ _ _ h => h, Or.inl ⟨by rfl, ?_⟩, by assumption, ?_⟩
      rotate_left 1
      · (intro w9 hSw; (try dsimp only at hSw); go_simp; try (with_reducible rfl))
      try simp only [Act.put, List.setIfInBounds_toArray, List.set_cons_zero, List.set_cons_succ]
      refine wpAnyH_take2 (i := 2) (by simp only [List.getElem?_toArray, List.getElem?_cons_succ, List.getElem?_cons_zero]; first | done | exact rfl) ⟨?_, by kernel_rfl, by kernel_rfl, by kernel_rfl, fun _ _ _ h => h, Or.inl ⟨by rfl, ?_⟩, by assumption, ?_⟩
      rotate_left 1
      · (intro w9 hSw; (try dsimp only at hSw); go_simp; try (with_reducible rfl))
      try simp only [Act.put, List.setIfInBounds_toArray, List.set_cons_zero, List.set_cons_succ]
      refine wpAnyH_take2 (i := 3) (by simp only [List.getElem?_toArray, List.getElem?_cons_succ, List.getElem?_cons_zero]; first | done | exact rfl) ⟨?_, by kernel_rfl, by kernel_rfl, by kernel_rfl, fun _ _ _ h => h, Or.inl ⟨by rfl, ?_⟩, by assumption, ?_⟩
      rotate_left 1
      · (intro w9 hSw; (try dsimp only at hSw); go_simp; try (with_reducible rfl))
      try simp only [Act.put, List.setIfInBounds_toArray, List.set_cons_zero, List.set_cons_succ]
      refine wpAnyH_take2 (i := 4) (by simp only [List.getElem?_toArray, List.getElem?_cons_succ, List.getElem?_cons_zero]; first | done | exact rfl) ⟨?_, by kernel_rfl, by kernel_rfl, by kernel_rfl, fun _ _ _ h => h, Or.inl ⟨by rfl, ?_⟩, by assumption, ?_⟩
      rotate_left 1
      · (intro w9 hSw; (try dsimp only at hSw); go_simp; try (with_reducible rfl))
      try simp only [Act.put, List.setIfInBounds_toArray, List.set_cons_zero, List.set_cons_succ]
      refine wpAnyH_take2 (i := 5) (by simp only [List.getElem?_toArray, List.getElem?_cons_succ, List.getElem?_cons_zero]; first | done | exact rfl) ⟨?_, by kernel_rfl, by kernel_rfl, by kernel_rfl, fun _ _ _ h => h, Or.inl ⟨by rfl, ?_⟩, by assumption, ?_⟩
      rotate_left 1
      · (intro w9 hSw; (try dsimp only at hSw); go_simp; try (with_reducible rfl))
      try simp only [Act.put, List.setIfInBounds_toArray, List.set_cons_zero, List.set_cons_succ]
      refine wpAnyH_take2 (i := 6) (by simp only [List.getElem?_toArray, List.getElem?_cons_succ, List.getElem?_cons_zero]; first | done | exact rfl) ⟨?_, by kernel_rfl, by kernel_rfl, by kernel_rfl, fun _ _ _ h => h, Or.inl ⟨by rfl, ?_⟩, by assumption, ?_⟩
      rotate_left 1
      · (intro w9 hSw; (try dsimp only at hSw); go_simp; try (with_reducible rfl))
      try simp only [Act.put, List.setIfInBounds_toArray, List.set_cons_zero, List.set_cons_succ]
      refine wpAnyH_take2 (i := 7) (by simp only [List.getElem?_toArray, List.getElem?_cons_succ, List.getElem?_cons_zero]; first | done | exact rfl) ⟨?_, by kernel_rfl, by kernel_rfl, by kernel_rfl, fun _ _ _ h => h, Or.inl ⟨by rfl, ?_⟩, by assumption, ?_⟩
      rotate_left 1
      · (intro w9 hSw; (try dsimp only at hSw); go_simp; try (with_reducible rfl))
      try simp only [Act.put, List.setIfInBounds_toArray, List.set_cons_zero, List.set_cons_succ]
      refine wpAnyH_take2 (i := 8) (by simp only [List.getElem?_toArray, List.getElem?_cons_succ, List.getElem?_cons_zero]; first | done | exact rfl) ⟨?_, by kernel_rfl, by kernel_rfl, by kernel_rfl, fun _ _ _ h => h, Or.inl ⟨by rfl, ?_⟩, by assumption, ?_⟩
      rotate_left 1
      · (intro w9 hSw; (try dsimp only at hSw); go_simp; try (with_reducible rfl))
      try simp only [Act.put, List.setIfInBounds_toArray, List.set_cons_zero, List.set_cons_succ]
      refine wpAnyH_take2 (i := 10) (by simp only [List.getElem?_toArray, List.getElem?_cons_succ, List.getElem?_cons_zero]; first | done | exact rfl) ⟨?_, by kernel_rfl, by kernel_rfl, by kernel_rfl, fun _ _ _ h => h, Or.inl ⟨by rfl, ?_⟩, by assumption, ?_⟩
      rotate_left 1
      · (intro w9 hSw; (try dsimp only at hSw); go_simp; try (with_reducible rfl))
      try simp only [Act.put, List.setIfInBounds_toArray, List.set_cons_zero, List.set_cons_succ]
      refine wpAnyH_take2 (i := 12) (by simp only [List.getElem?_toArray, List.getElem?_cons_succ, List.getElem?_cons_zero]; first | done | exact rfl) ⟨?_, by kernel_rfl, by kernel_rfl, by kernel_rfl, fun _ _ _ h => h, Or.inl ⟨by rfl, ?_⟩, by assumption, ?_⟩
      rotate_left 1
      · (intro w9 hSw; (try dsimp only at hSw); go_simp; try (with_reducible rfl))
      try simp only [Act.put, List.setIfInBounds_toArray, List.set_cons_zero, List.set_cons_succ]
      refine wpAnyH_take2 (i := 13) (by simp only [List.getElem?_toArray, List.getElem?_cons_succ, List.getElem?_cons_zero]; first | done | exact rfl) ⟨?_, by kernel_rfl, by kernel_rfl, by kernel_rfl, fun _ _ _ h => h, Or.inl ⟨by rfl, ?_⟩, by assumption, ?_⟩
      rotate_left 1
      · (intro w9 hSw; (try dsimp only at hSw); go_simp; try (with_reducible rfl))
      try simp only [Act.put, List.setIfInBounds_toArray, List.set_cons_zero, List.set_cons_succ]
      refine wpAnyH_take2 (i := 14) (by simp only [List.getElem?_toArray, List.getElem?_cons_succ, List.getElem?_cons_zero]; first | done | exact rfl) ⟨?_, by kernel_rfl, by kernel_rfl, by kernel_rfl, fun _ _ _ h => h, Or.inl ⟨by rfl, ?_⟩, by assumption, ?_⟩
      rotate_left 1
      · (intro w9 hSw; (try dsimp only at hSw); go_simp; try (with_reducible rfl))
      try simp only [Act.put, List.setIfInBounds_toArray, List.set_cons_zero, List.set_cons_succ]
      refine wpAnyH_take2 (i := 15) (by simp only [List.getElem?_toArray, List.getElem?_cons_succ, List.getElem?_cons_zero]; first | done | exact rfl) ⟨?_, by kernel_rfl, by kernel_rfl, by kernel_rfl, fun _ _ _ h => h, Or.inl ⟨by rfl, ?_⟩, by assumption, ?_⟩
      rotate_left 1
      · (intro w9 hSw; (try dsimp only at hSw); go_simp; try (with_reducible rfl))
      try simp only [Act.put, List.setIfInBounds_toArray, List.set_cons_zero, List.set_cons_succ]
      refine wpAnyH_ready (rs := [9]) (by kernel_rfl) (by simp) ?_
      refine AllReadyH.cons2 (by simp only [List.getElem?_toArray, List.getElem?_cons_succ, List.getElem?_cons_zero]; first | done | exact rfl) (fun K hK => ?_)
      rw [if_pos (by rfl)]
      go_simp
      have W1 := Lib.hid (bal hbw.drew (.cells #[] 5))
      refine hK.out _ _ (by exact hS.out _ W1.out) (fun hHeld => ?_)
      clear hK K
      try simp only [Act.put, List.setIfInBounds_toArray, List.set_cons_zero, List.set_cons_succ]
      refine wpAnyH_ready (rs := [11]) (by kernel_rfl) (by simp) ?_
      refine AllReadyH.cons2 (by simp only [List.getElem?_toArray, List.getElem?_cons_succ, List.getElem?_cons_zero]; first | done | exact rfl) (fun K hK => ?_)
      refine step_append _ rfl (.tmp 70) (.tmp 71) 22 rfl w4.heap.size 5 tb _ 1 1 Try.underlying22 htb hy0 hy1 hy2 rfl (by omega) _ 0 0 [] rfl (Own.none_ _ _ _ _ _) w.heap.size A' r c' (bcells rl) rfl (by exact (HYR.out.below (bgo' HW4.out W1.out)).2.2) (by rw [length_bcells, HYR.out.1]; omega) (bcells_one _) (by unfold maxLen; omega) (by omega) (by exact W1.out.size) ?_
      intro A5 c5 w5 hown5 hg5 hat5
      rw [Nat.zero_add, List.nil_append] at hown5
      rw [Nat.zero_add]
      have hb5 := (Own.none_ _ _ 5 1 _).grown hg5 (Below.refl _ _) (Nat.le_refl _)
      have W5 := Lib.hid (bgo W1.out hb5)
      have O5 := Lib.hid hown5
      have V5 := Lib.hid (((hown.drew).alloc (.cells #[] 5)).below hb5)
      have A5' := Lib.hid (fun v hv => (((hall v hv).drew).alloc (.cells #[] 5)).below hb5)
      clear hown5 hg5 hat5 hb5 W1
      refine hK.out _ _ (by exact hS.out _ W5.out) (fun hHeld => ?_)
      clear hK K
      try simp only [Act.put, List.setIfInBounds_toArray, List.set_cons_zero, List.set_cons_succ]
      refine wpAnyH_take2 (i := 16) (by simp only [List.getElem?_toArray, List.getElem?_cons_succ, List.getElem?_cons_zero]; first | done | exact rfl) ⟨?_, by kernel_rfl, by kernel_rfl, by kernel_rfl, fun _ _ _ h => h, Or.inl ⟨by rfl, ?_⟩, by assumption, ?_⟩
      rotate_left 1
      · (intro w9 hSw; (try dsimp only at hSw); go_simp; try (with_reducible rfl))
      try simp only [Act.put, List.setIfInBounds_toArray, List.set_cons_zero, List.set_cons_succ]
      refine wpAnyH_ready (rs := [17]) (by kernel_rfl) (by simp) ?_
      refine AllReadyH.cons2 (by simp only [List.getElem?_toArray, List.getElem?_cons_succ, List.getElem?_cons_zero]; first | done | exact rfl) (fun K hK => ?_)
      rw [if_pos (by rfl)]
      go_simp
      have W6 := Lib.hid (bal W5.out (.cells #[I64 cla, I64 ins, I64 p1, I64 p2, .slice A5 r c5, I64 le, .bool long] 24))
      have V6 := Lib.hid (V5.out.alloc (.cells #[I64 cla, I64 ins, I64 p1, I64 p2, .slice A5 r c5, I64 le, .bool long] 24))
      have O6 := Lib.hid (O5.out.alloc (.cells #[I64 cla, I64 ins, I64 p1, I64 p2, .slice A5 r c5, I64 le, .bool long] 24))
      have A6 := Lib.hid (fun v hv => (A5'.out v hv).alloc (.cells #[I64 cla, I64 ins, I64 p1, I64 p2, .slice A5 r c5, I64 le, .bool long] 24))
      have R6 := Lib.hid (Row.new (t := 24) w5 (cs := #[I64 cla, I64 ins, I64 p1, I64 p2, .slice A5 r c5, I64 le, .bool long]) (l := (⟨cla, ins, p1, p2, ⟨A5, r, c5, rl⟩, le, long⟩ : CV).cells) rfl)
      refine hK.out _ _ (by exact hS.out _ W6.out) (fun hHeld => ?_)
      clear hK K
      try simp only [Act.put, List.setIfInBounds_toArray, List.set_cons_zero, List.set_cons_succ]
      refine wpAnyH_ready (rs := [18]) (by kernel_rfl) (by simp) ?_
      refine AllReadyH.cons2 (by simp only [List.getElem?_toArray, List.getElem?_cons_succ, List.getElem?_cons_zero]; first | done | exact rfl) (fun K hK => ?_)
      refine step_append _ rfl (.tmp 61) (.tmp 78) 53 rfl w4.heap.size 24 ti _ 7 72 Try.underlying53 hti hz0 hz1 hz2 rfl (by omega) A2 k c2 (ccells vs) rfl V6.out (w5.heap.size + 1) (some ⟨w5.heap.size, 0, none⟩) 1 1 (⟨cla, ins, p1, p2, ⟨A5, r, c5, rl⟩, le, long⟩ : CV).cells rfl R6.out (by simp [CV.cells]) (CV.ones _) (by unfold maxLen; omega) (by omega) (by exact W6.out.size) ?_
      intro A7 c7 w7 hown7 hg7 hat7
      have W7 := Lib.hid (V6.out.grown hg7 W6.out W6.out.size)
      have V7 := Lib.hid hown7
      have O7 := Lib.hid (O6.out.kept hg7 ((Own.ne O6.out V6.out (by decide)).imp_right fun hh q hq => hh q hq))
      have A7' := Lib.hid (fun v hv => (A6.out v hv).kept hg7 ((Own.ne (A6.out v hv) V6.out (by decide)).imp_right fun hh q hq => hh q hq))
      clear hown7 hg7 hat7 hown hall hbw
      refine hK.out _ _ (by exact hS.out _ W7.out) (fun hHeld => ?_)
      clear hK K
      try simp only [Act.put, List.setIfInBounds_toArray, List.set_cons_zero, List.set_cons_succ]
      refine wpAnyH_take2 (i := 19) (by simp only [List.getElem?_toArray, List.getElem?_cons_succ, List.getElem?_cons_zero]; first | done | exact rfl) ⟨?_, by kernel_rfl, by kernel_rfl, by kernel_rfl, fun _ _ _ h => h, Or.inl ⟨by rfl, ?_⟩, by assumption, ?_⟩
      rotate_left 1
      · (intro w9 hSw; (try dsimp only at hSw); go_simp; try (with_reducible rfl))
      try simp only [Act.put, List.setIfInBounds_toArray, List.set_cons_zero, List.set_cons_succ]
      refine wpAnyH_take2 (i := 20) (by simp only [List.getElem?_toArray, List.getElem?_cons_succ, List.getElem?_cons_zero]; first | done | exact rfl) ⟨?_, by kernel_rfl, by kernel_rfl, by kernel_rfl, fun _ _ _ h => h, Or.inl ⟨by rfl, ?_⟩, by assumption, ?_⟩
      rotate_left 1
      · (intro w9 hSw; (try dsimp only at hSw); go_simp; try (with_reducible rfl))
      try simp only [Act.put, List.setIfInBounds_toArray, List.set_cons_zero, List.set_cons_succ]
      refine wpAnyH_done (by kernel_rfl) ?_ _
      refine NoPanic.normal ?_
      clear hHeld
      go_wp2_with fail
      go_ret2
      rw [E1.out, E2.out]
      have hLL : Apd.lst ⟨cla, ins, p1, p2, d, le, long⟩ (Apd.pl d m) = (vs ++ [(⟨cla, ins, p1, p2, ⟨A5, r, c5, rl⟩, le, long⟩ : CV)]).map CV.cmd := by
        rw [← heq.out, HP.out, List.map_append]; rfl
      have hLn : (Apd.lst ⟨cla, ins, p1, p2, d, le, long⟩ (Apd.pl d m)).length = k + 1 := by rw [hLL, List.length_map, List.length_append, hlv.out]; rfl
      refine ⟨A7, c7, vs ++ [⟨cla, ins, p1, p2, ⟨A5, r, c5, rl⟩, le, long⟩], by rw [hLn]; rfl, hLL.symm, ⟨by rw [ccells_append, ccells_one]; exact V7.out.row, fun v hv => ?_⟩, HW4.out.trans (W7.out.mono HW4.out.size)⟩
      rcases List.mem_append.1 hv with hv | hv
      · exact (A7'.out v hv).byt (Nat.le_refl _)
      · obtain rfl := List.mem_singleton.1 hv
        exact O7.out.byt (Nat.le_refl _)
end Go.Proofs.Ytapfiapjefnjjaa
