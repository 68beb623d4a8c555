/-
  The reference's link.
-/
import Derived.Test.YtapfiapjefnjjaaApdAG
import Derived.Test.YtapfiapjefnjjaaApdK
namespace Go.Proofs.Ytapfiapjefnjjaa
set_option linter.unusedSimpArgs false
open Go.RowKit

theorem stE_two (x f : Apd.Cmd) (l : List Apd.Cmd) (i : Nat) (hx : l[i]? = some x) (hf : l[0]? = some f) (lb : Bool) (hlb : decide (i + 1 = l.length) = lb) (n : Nat) (hn : x.d.length = n) :
    Apd.stE l i = if Apd.chk x.cla x.ins x.p1 x.p2 n x.le x.long ≠ 0 then Apd.chk x.cla x.ins x.p1 x.p2 n x.le x.long
      else if Apd.cok x.cla = false ∨ (x.cla / 16 % 2 == 1) = lb ∨ Apd.hds x ≠ Apd.hds f ∨ (lb = false ∧ (n = 0 ∨ 0 < x.le)) then 4 else 0 := by
  unfold Apd.stE
  rw [hx, hf]
  simp only [hlb, hn]
  by_cases h1 : Apd.chk x.cla x.ins x.p1 x.p2 n x.le x.long = 0
  case neg =>
    have hL : Apd.lkE x.cla x.ins x.p1 x.p2 n x.le x.long lb = Apd.chk x.cla x.ins x.p1 x.p2 n x.le x.long := if_pos h1
    rw [hL, if_pos h1, if_pos h1]
  have h1n : ¬ Apd.chk x.cla x.ins x.p1 x.p2 n x.le x.long ≠ 0 := fun e => e h1
  have hL : Apd.lkE x.cla x.ins x.p1 x.p2 n x.le x.long lb = if Apd.cok x.cla = false ∨ (x.cla / 16 % 2 == 1) = lb ∨ (lb = false ∧ (n = 0 ∨ 0 < x.le)) then 4 else 0 := if_neg h1n
  rw [if_neg h1n, hL]
  by_cases h2 : Apd.cok x.cla = false ∨ (x.cla / 16 % 2 == 1) = lb ∨ (lb = false ∧ (n = 0 ∨ 0 < x.le))
  · rw [if_pos h2, if_pos (by decide), if_pos]
    rcases h2 with h | h | h
    · exact .inl h
    · exact .inr (.inl h)
    · exact .inr (.inr (.inr h))
  · rw [if_neg h2, if_neg (fun e => e rfl)]
    by_cases h3 : Apd.hds x = Apd.hds f
    · rw [if_pos h3, if_neg]
      rintro (h | h | h | h)
      · exact h2 (.inl h)
      · exact h2 (.inr (.inl h))
      · exact h h3
      · exact h2 (.inr (.inr h))
    · rw [if_neg h3, if_pos (.inr (.inr (.inl h3)))]
theorem cells7z {u : World} {b o : Nat} {a0 a1 a2 a3 a4 a5 a6 : Value} (h : u.rangeAt b (o + 0 * 7) [a0, a1, a2, a3, a4, a5, a6]) :
    u.cell? ⟨b, o, none⟩ = some a0 ∧ u.cell? ⟨b, o + 1, none⟩ = some a1 ∧ u.cell? ⟨b, o + 2, none⟩ = some a2 ∧ u.cell? ⟨b, o + 3, none⟩ = some a3 := by
  rw [Nat.zero_mul, Nat.add_zero] at h
  exact ⟨h 0 _ rfl, h 1 _ rfl, h 2 _ rfl, h 3 _ rfl⟩

set_option maxRecDepth 100000 in
set_option maxHeartbeats 16000000 in
theorem ref04_link (A : Option Addr) (n c k : Nat) (vs : List CV) (w : World) (h : Cmds w w.heap.size A vs) (hn : vs.length = n) (hk : k < n) (hm : n ≤ 1000000)
    (h0 : 0 < k → ∀ f, vs[0]? = some f → Apd.cok f.cla = true) :
    Calls Try.prog 56 #[.slice A n c, .int .i64 k] w fun e w' => e = .returned (.int .i64 (Apd.stE (vs.map CV.cmd) k)) ∧ Below w.heap.size w w' := by
  have hkv : k < vs.length := by omega
  have h0v : 0 < vs.length := by omega
  obtain ⟨b1, o1, rfl, hb1, hr1, hy1⟩ := h.at_ hkv
  obtain ⟨b2, o2, e2, hb2, hr2, hy2⟩ := h.at_ h0v
  injection e2 with e2
  injection e2 with e3 e4 e5
  subst e3 e4
  have hx : vs[k]? = some vs[k] := List.getElem?_eq_getElem hkv
  have hf : vs[0]? = some vs[0] := List.getElem?_eq_getElem h0v
  have h0' : 0 < k → Apd.cok vs[0].cla = true := fun e => h0 e _ hf
  have hkf : k = 0 → vs[0].cla = vs[k].cla := fun e => by subst e; rfl
  obtain ⟨lb, hlb⟩ : ∃ lb : Bool, decide (k + 1 = n) = lb := ⟨_, rfl⟩
  have i1 : ((k : Int) == (n : Int) - 1) = lb := by
    rw [← hlb, Bool.eq_iff_iff, beq_iff_eq, decide_eq_true_eq]; omega
  have hE := stE_two vs[k].cmd vs[0].cmd (vs.map CV.cmd) k (by rw [List.getElem?_map, hx]; rfl) (by rw [List.getElem?_map, hf]; rfl) lb (by rw [List.length_map, hn]; exact hlb) vs[k].d.n hy1.1
  generalize vs[k] = x at *
  generalize vs[0] = f at *
  obtain ⟨x0, x1, x2, x3, ⟨xa, xn, xc, xb⟩, x5, x6⟩ := x
  obtain ⟨f0, f1, f2, f3, ⟨fa, fn, fc, fb⟩, f5, f6⟩ := f
  replace hE : Apd.stE (vs.map CV.cmd) k = if Apd.chk x0 x1 x2 x3 xn x5 x6 ≠ 0 then Apd.chk x0 x1 x2 x3 xn x5 x6
      else if Apd.cok x0 = false ∨ (x0 / 16 % 2 == 1) = lb ∨ Apd.hds ⟨x0, x1, x2, x3, xb, x5, x6⟩ ≠ Apd.hds ⟨f0, f1, f2, f3, fb, f5, f6⟩ ∨ (lb = false ∧ (xn = 0 ∨ 0 < x5)) then 4 else 0 := hE
  replace h0' : 0 < k → Apd.cok f0 = true := h0'
  replace hkf : k = 0 → f0 = x0 := hkf
  have hZ : Apd.chk x0 x1 x2 x3 xn x5 x6 = 0 → 0 ≤ x5 := fun e => (Apd.chk_zero e).2.2.2.2.2.1
  generalize Apd.stE (vs.map CV.cmd) k = ee at *
  have HF := Lib.hid (fun u (hu : Below w.heap.size w u) => cells7z (rangeAt_below hr2 hu hb1))
  obtain ⟨a0, a1, a2, a3, a4b, a5, a6⟩ := cells7o hr1
  have a4 : w.cell? ⟨b1, o1 + k * 7 + 4, none⟩ = some (.slice xa xn xc) := a4b
  have p0 : (0 : Int) ≤ (k : Int) := by omega
  have p1 : (k : Int) < (n : Int) := by omega
  have p2 : (0 : Int) < (n : Int) := by omega
  have HK := Lib.hid (Blk.new w 24 #[I64 x0, I64 x1, I64 x2, I64 x3, .slice xa xn xc, I64 x5, .bool x6])
  have HW := Lib.hid (bal (Below.refl w.heap.size w) (.cells #[I64 x0, I64 x1, I64 x2, I64 x3, .slice xa xn xc, I64 x5, .bool x6] 24))
  have hC := fun u => ref04_Check x0 x1 x2 x3 xa xn xc x5 x6 u
  have hCl := fun u => ref04_Class x0 u
  have hCf := fun u => ref04_Class f0 u
  unfold cmdV at hC
  generalize Apd.chk x0 x1 x2 x3 xn x5 x6 = z at *
  have HC := Lib.hid hC
  clear hC a4b hr1 hr2 hy1 hy2 e5 hb2 h0 hx hf hlb h hkv h0v hn
  go_enter Try.func56, Try.ntmps56
  go_wp2_with ((with_reducible show wpList _ _ _ (Oper.mk _ (Op.load 24 (Operand.tmp 5)) _ _ _ _ :: _) _ _); refine wpList_load_row rfl 24 (.tmp 5) rfl w.heap.size rfl 24 _ (0, 0) _ HK.out Try.underlying24 rfl (by kernel_rfl) ?_)
  go_at_call 15
  refine (HC.out _).mono ?_
  rintro e w2 ⟨rfl, b2⟩
  have K2 := HK.out.after b2
  have W2 := bgo HW.out b2
  clear a0 a1 a2 a3 a4 a5 a6 HK HW HC b2
  by_cases hz : z = 0
  case neg =>
    have he : ee = z := by rw [hE, if_pos hz]
    have hz2 : (z != 0) = true := bne_iff_ne.2 hz
    have HE := Lib.hid he
    clear he hE hZ hCl hCf hz
    go_wp2_with fail
    go_ret
    exact ⟨by rw [HE.out]; rfl, W2⟩
  subst hz
  have h5 := hZ rfl
  rw [if_neg (fun e => e rfl)] at hE
  clear hZ
  have k0 := K2.cell 0
  cases hk1 : Apd.cok x0 with
  | false =>
    have he : ee = 4 := by rw [hE, if_pos (.inl hk1)]
    subst he
    have e3 : Apd.clsV x0 = infoV 0 false false false := by unfold Apd.clsV; rw [hk1]; rfl
    rw [e3, hk1] at hCl
    unfold infoV at hCl
    have HCl := Lib.hid hCl
    clear e3 hk1 hE hCl hCf h0' hkf
    go_wp2_with fail
    go_at_call 20
    refine (HCl.out _).mono ?_
    rintro e w3 ⟨rfl, b3⟩
    have W3 := Lib.hid (fun o => bal (bgo W2 b3) o)
    clear b3 K2 k0 W2
    go_wp2_with fail
    go_ret
    exact ⟨rfl, W3.out _⟩
  | true =>
    have e3 : Apd.clsV x0 = infoV (x0 % 4) (x0 / 4 % 2 == 1) (x0 / 16 % 2 == 1) (x0 / 128 == 1) := by unfold Apd.clsV; rw [hk1]; rfl
    have hkf1 : Apd.cok f0 = true := by
      rcases Nat.eq_zero_or_pos k with e | e
      · rw [hkf e]; exact hk1
      · exact h0' e
    have e4 : Apd.clsV f0 = infoV (f0 % 4) (f0 / 4 % 2 == 1) (f0 / 16 % 2 == 1) (f0 / 128 == 1) := by unfold Apd.clsV; rw [hkf1]; rfl
    rw [e3, hk1] at hCl
    rw [e4, hkf1] at hCf
    have hh1 : Apd.hds ⟨x0, x1, x2, x3, xb, x5, x6⟩ = (x0 % 4, x0 / 4 % 2 == 1, x0 / 128 == 1, x1, x2, x3) := rfl
    have hh2 : Apd.hds ⟨f0, f1, f2, f3, fb, f5, f6⟩ = (f0 % 4, f0 / 4 % 2 == 1, f0 / 128 == 1, f1, f2, f3) := rfl
    rw [hh1, hh2, hk1] at hE
    unfold infoV at hCl hCf
    generalize (x0 / 16 % 2 == 1) = q at *
    generalize (f0 / 16 % 2 == 1) = qf at *
    generalize x0 % 4 = c0 at *
    generalize (x0 / 4 % 2 == 1) = c1 at *
    generalize (x0 / 128 == 1) = c2 at *
    generalize f0 % 4 = d0 at *
    generalize (f0 / 4 % 2 == 1) = d1 at *
    generalize (f0 / 128 == 1) = d2 at *
    have HCl := Lib.hid hCl
    have HCf := Lib.hid hCf
    have HE := Lib.hid hE
    clear e3 e4 hk1 hkf1 hh1 hh2 hE hCl hCf h0' hkf
    go_wp2_with fail
    go_at_call 20
    refine (HCl.out _).mono ?_
    rintro e w3 ⟨rfl, b3⟩
    have K3 := K2.after b3
    have W3 := bgo W2 b3
    have hw3 : w.heap.size < w3.heap.size := K3.lt
    clear b3 K2 k0 W2 HCl
    by_cases hq : q = lb
    · have he : ee = 4 := by rw [HE.out, if_pos (.inr (.inl hq))]
      subst he
      subst hq
      have W4 := Lib.hid (fun o => bal W3 o)
      have t2 := (Blk.new w3 34 #[.int .i64 c0, .bool c1, .bool q, .bool c2]).cell 2
      clear HE HCf
      go_wp2_with fail
      go_ret
      exact ⟨rfl, W4.out _⟩
    have W4 := bal W3 (.cells #[.int .i64 c0, .bool c1, .bool q, .bool c2] 34)
    have K4 := K3.alloc (.cells #[.int .i64 c0, .bool c1, .bool q, .bool c2] 34)
    have C4 := Blk.new w3 34 #[.int .i64 c0, .bool c1, .bool q, .bool c2]
    have t2 := C4.cell 2
    obtain ⟨g0, -, -, -⟩ := HF.out _ W4
    have hql : (q == lb) = false := beq_eq_false_iff_ne.2 hq
    clear W3
    go_wp2_with fail
    go_at_call 20
    refine (HCf.out _).mono ?_
    rintro e w5 ⟨rfl, b5⟩
    have W5 := bgo W4 b5
    have K5 := K4.after b5
    have C5 := C4.after b5
    have hlt : w3.heap.size < w5.heap.size := C5.lt
    have D6 := Blk.new' (t := 34) (cs := #[.int .i64 d0, .bool d1, .bool false, .bool d2]) (g := w5.heap.size) (w5.setCell ⟨w3.heap.size, 2, none⟩ (.bool false)) (by simp) rfl
    have C6 := (C5.set 2 (.bool false)).alloc (.cells #[.int .i64 d0, .bool d1, .bool false, .bool d2] 34)
    have K6 := (K5.far (p := ⟨w3.heap.size, 2, none⟩) (by simp; omega) (.bool false)).alloc (.cells #[.int .i64 d0, .bool d1, .bool false, .bool d2] 34)
    have W6 := bal (W5.setCell (p := ⟨w3.heap.size, 2, none⟩) (by simp; omega) (.bool false)) (.cells #[.int .i64 d0, .bool d1, .bool false, .bool d2] 34)
    have C6 : Blk _ _ 34 #[.int .i64 c0, .bool c1, .bool false, .bool c2] := C6
    have dc2 := (C5.alloc (.cells #[.int .i64 d0, .bool d1, .bool qf, .bool d2] 34)).cell 2
    have dc3 := (C5.alloc (.cells #[.int .i64 d0, .bool d1, .bool qf, .bool d2] 34)).frozen 2
    have dd2 := (C5.alloc (.cells #[.int .i64 d0, .bool d1, .bool false, .bool d2] 34)).cell 2
    have dd3 := (C5.alloc (.cells #[.int .i64 d0, .bool d1, .bool false, .bool d2] 34)).frozen 2
    have de2 := C5.cell 2
    have de3 := C5.frozen 2
    have HW6 := Lib.hid W6
    have HC6 := Lib.hid C6
    have HD6 := Lib.hid D6
    have HK6 := Lib.hid K6
    clear W6 C6 D6 K6 W5 K5 C4 K4 W4 t2 g0 b5 HCf K3 C5
    go_upto_region 11 with fail
    generalize (w5.setCell ⟨w3.heap.size, 2, none⟩ (.bool false)).alloc (.cells #[.int .i64 d0, .bool d1, .bool false, .bool d2] 34) = w6 at *
    obtain ⟨-, g1, g2, g3⟩ := HF.out _ HW6.out
    have k1 := HK6.out.cell 1
    have k2 := HK6.out.cell 2
    have k3 := HK6.out.cell 3
    have k4 := HK6.out.cell 4
    have k5 := HK6.out.cell 5
    have r0 := HC6.out.cell 0
    have r1 := HC6.out.cell 1
    have r2 := HC6.out.cell 2
    have r3 := HC6.out.cell 3
    have s0 := HD6.out.cell 0
    have s1 := HD6.out.cell 1
    have s2 := HD6.out.cell 2
    have s3 := HD6.out.cell 3
    clear HF HC6 HD6 HK6 dc2 dc3 dd2 dd3 de2 de3
    by_cases hh : (c0, c1, c2, x1, x2, x3) = (d0, d1, d2, f1, f2, f3)
    · simp only [Prod.mk.injEq] at hh
      obtain ⟨rfl, rfl, rfl, rfl, rfl, rfl⟩ := hh
      cases lb with
      | true =>
        have he : ee = 0 := by
          rw [HE.out, if_neg]
          rintro (h | h | h | ⟨h, -⟩)
          · cases h
          · exact hq h
          · exact h rfl
          · cases h
        subst he
        clear HE
        go_wp2_with fail
        go_quiet (fail)
        go_wp2_with fail
        go_ret
        exact ⟨rfl, Below.drewN HW6.out _⟩
      | false =>
        by_cases hxn : xn = 0
        · have he : ee = 4 := by rw [HE.out, if_pos (.inr (.inr (.inr ⟨rfl, .inl hxn⟩)))]
          subst he
          subst hxn
          clear HE
          go_wp2_with fail
          go_quiet (fail)
          go_wp2_with fail
          go_ret
          exact ⟨rfl, Below.drewN HW6.out _⟩
        have j1 : ((xn : Int) == 0) = false := by rw [beq_eq_false_iff_ne]; omega
        by_cases hxl : x5 = 0
        · have he : ee = 0 := by
            rw [HE.out, if_neg]
            rintro (h | h | h | ⟨-, h | h⟩)
            · cases h
            · exact hq h
            · exact h rfl
            · exact hxn h
            · omega
          subst he
          subst hxl
          clear HE
          go_wp2_with fail
          go_quiet (fail)
          go_wp2_with fail
          go_ret
          exact ⟨rfl, Below.drewN HW6.out _⟩
        · have he : ee = 4 := by rw [HE.out, if_pos (.inr (.inr (.inr ⟨rfl, .inr (by omega)⟩)))]
          subst he
          have j2 : (x5 != 0) = true := bne_iff_ne.2 hxl
          clear HE
          go_wp2_with fail
          go_quiet (fail)
          go_wp2_with fail
          go_ret
          exact ⟨rfl, Below.drewN HW6.out _⟩
    · have he : ee = 4 := by rw [HE.out, if_pos (.inr (.inr (.inl hh)))]
      subst he
      have hq2 : ¬ (c0 = d0 ∧ c1 = d1 ∧ c2 = d2 ∧ x1 = f1 ∧ x2 = f2 ∧ x3 = f3) := fun ⟨h1, h2, h3, h4, h5, h6⟩ => hh (by rw [h1, h2, h3, h4, h5, h6])
      have hcs : ¬ c0 = d0 ∨ (c0 = d0 ∧ ¬ c1 = d1) ∨ (c0 = d0 ∧ c1 = d1 ∧ ¬ c2 = d2) ∨ (c0 = d0 ∧ c1 = d1 ∧ c2 = d2 ∧ ¬ x1 = f1) ∨ (c0 = d0 ∧ c1 = d1 ∧ c2 = d2 ∧ x1 = f1 ∧ ¬ x2 = f2) ∨ (c0 = d0 ∧ c1 = d1 ∧ c2 = d2 ∧ x1 = f1 ∧ x2 = f2 ∧ ¬ x3 = f3) := by
        by_cases e0 : c0 = d0
        · by_cases e1 : c1 = d1
          · by_cases e2 : c2 = d2
            · by_cases e3 : x1 = f1
              · by_cases e4 : x2 = f2
                · exact .inr (.inr (.inr (.inr (.inr ⟨e0, e1, e2, e3, e4, fun e5 => hq2 ⟨e0, e1, e2, e3, e4, e5⟩⟩))))
                · exact .inr (.inr (.inr (.inr (.inl ⟨e0, e1, e2, e3, e4⟩))))
              · exact .inr (.inr (.inr (.inl ⟨e0, e1, e2, e3⟩)))
            · exact .inr (.inr (.inl ⟨e0, e1, e2⟩))
          · exact .inr (.inl ⟨e0, e1⟩)
        · exact .inl e0
      clear HE hh hq2 hq hql
      rcases hcs with e0 | ⟨rfl, e1⟩ | ⟨rfl, rfl, e2⟩ | ⟨rfl, rfl, rfl, e3⟩ | ⟨rfl, rfl, rfl, rfl, e4⟩ | ⟨rfl, rfl, rfl, rfl, rfl, e5⟩
      rotate_left 1
      · cases c1 <;> cases d1 <;> first | exact absurd rfl e1 | skip
        all_goals
          go_wp2_with fail
          go_quiet (fail)
          go_wp2_with fail
          go_ret
          exact ⟨rfl, Below.drewN HW6.out _⟩
      · cases c2 <;> cases d2 <;> first | exact absurd rfl e2 | skip
        all_goals
          go_wp2_with fail
          go_quiet (fail)
          go_wp2_with fail
          go_ret
          exact ⟨rfl, Below.drewN HW6.out _⟩
      · have m1 : (x1 != f1) = true := bne_iff_ne.2 e3
        clear e3
        go_wp2_with fail
        go_quiet (fail)
        go_wp2_with fail
        go_ret
        exact ⟨rfl, Below.drewN HW6.out _⟩
      · have m1 : (x2 != f2) = true := bne_iff_ne.2 e4
        clear e4
        go_wp2_with fail
        go_quiet (fail)
        go_wp2_with fail
        go_ret
        exact ⟨rfl, Below.drewN HW6.out _⟩
      · have m1 : (x3 != f3) = true := bne_iff_ne.2 e5
        clear e5
        go_wp2_with fail
        go_quiet (fail)
        go_wp2_with fail
        go_ret
        exact ⟨rfl, Below.drewN HW6.out _⟩
      · go_wp2_with fail
        go_quiet (fail)
        go_wp2_with fail
        go_ret
        exact ⟨rfl, Below.drewN HW6.out _⟩
end Go.Proofs.Ytapfiapjefnjjaa
