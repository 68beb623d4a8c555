/-
  The walk of Join.
-/
import Derived.Test.YtapfiapjefnjjaaApdAF
import Derived.Test.YtapfiapjefnjjaaApdAE
import Derived.Test.YtapfiapjefnjjaaApdX
namespace Go.Proofs.Ytapfiapjefnjjaa
set_option linter.unusedSimpArgs false
open Go.RowKit

/-- What an element has in common with the others. -/
def Apd.hds (x : Apd.Cmd) : Int × Bool × Bool × Int × Int × Int := (x.cla % 4, x.cla / 4 % 2 == 1, x.cla / 128 == 1, x.ins, x.p1, x.p2)
/-- The error of element i of a chain. -/
def Apd.stE (l : List Apd.Cmd) (i : Nat) : Int :=
  match l[i]?, l[0]? with
  | some x, some f =>
    if Apd.lkE x.cla x.ins x.p1 x.p2 x.d.length x.le x.long (decide (i + 1 = l.length)) ≠ 0 then Apd.lkE x.cla x.ins x.p1 x.p2 x.d.length x.le x.long (decide (i + 1 = l.length))
    else if Apd.hds x = Apd.hds f then 0 else 4
  | _, _ => 0
def Apd.jdat (l : List Apd.Cmd) : List UInt8 := l.flatMap (·.d)
/-- The first error of a chain's elements from number i on. -/
def Apd.frE (l : List Apd.Cmd) : Nat → Nat → Int
  | _, 0 => 0
  | i, g + 1 => if Apd.stE l i ≠ 0 then Apd.stE l i else Apd.frE l (i + 1) g
def Apd.jnE (l : List Apd.Cmd) : Int := if l = [] then 1 else if Apd.frE l 0 l.length ≠ 0 then Apd.frE l 0 l.length else if 65535 < (Apd.jdat l).length then 3 else 0
/-- The command that is joined. -/
def Apd.jnC (l : List Apd.Cmd) : Apd.Cmd :=
  match l.getLast? with
  | some x => ⟨x.cla, x.ins, x.p1, x.p2, Apd.jdat l, x.le, x.long || decide (255 < (Apd.jdat l).length)⟩
  | none => ⟨0, 0, 0, 0, [], 0, false⟩
/-- The cells of what an element has in common with the others. -/
def Apd.hcl (f : Int × Bool × Bool × Int × Int × Int) : Array Value := #[.int .i64 f.1, .bool f.2.1, .bool false, .bool f.2.2.1, .int .i64 f.2.2.2.1, .int .i64 f.2.2.2.2.1, .int .i64 f.2.2.2.2.2]
/-- What Join leaves. -/
def JRes (w : World) (l : List Apd.Cmd) (e : Ending) (w' : World) : Prop :=
  Below w.heap.size w w' ∧
  ((Apd.jnE l ≠ 0 ∧ e = .returned (.tuple #[cmdV 0 0 0 0 none 0 0 0 false, .int .i64 (Apd.jnE l)])) ∨
   (Apd.jnE l = 0 ∧ ∃ A c, e = .returned (.tuple #[cmdV (Apd.jnC l).cla (Apd.jnC l).ins (Apd.jnC l).p1 (Apd.jnC l).p2 A (Apd.jnC l).d.length c (Apd.jnC l).le (Apd.jnC l).long, .int .i64 0]) ∧
     Own w' w.heap.size 5 1 A (Apd.jnC l).d.length c (bcells (Apd.jnC l).d)))

theorem jdat_le (l : List Apd.Cmd) (k : Nat) : (Apd.jdat (l.take k)).length ≤ (Apd.jdat l).length := by
  have h : Apd.jdat l = Apd.jdat (l.take k) ++ Apd.jdat (l.drop k) := by unfold Apd.jdat; rw [← List.flatMap_append, List.take_append_drop]
  rw [h, List.length_append]; omega

set_option maxRecDepth 100000 in
set_option maxHeartbeats 16000000 in
theorem apdu_Join (A : Option Addr) (n c : Nat) (vs : List CV) (w : World) (h : Cmds w w.heap.size A vs) (hn : vs.length = n) (hm : n ≤ 1000000) (ht : (Apd.jdat (vs.map CV.cmd)).length ≤ 1000000) :
    Calls Try.prog 37 #[.slice A n c] w (JRes w (vs.map CV.cmd)) := by
  have HB := Lib.hid (fun o => bal (Below.refl w.heap.size w) o)
  unfold JRes
  by_cases h0 : n = 0
  · subst h0
    obtain rfl := List.eq_nil_of_length_eq_zero hn
    have hE : Apd.jnE (([] : List CV).map CV.cmd) = 1 := rfl
    have HE := Lib.hid hE
    clear hE h ht
    go_enter Try.func37, Try.ntmps37
    go_wp2_with fail
    refine bodyPost_ret (results_row_tmp rfl _ _ w.heap.size 24 _ (0, 0) _ rfl (Blk.new' _ (by simp) rfl) Try.underlying24 rfl (by kernel_rfl)) rfl ⟨HB.out _, .inl ?_⟩
    rw [HE.out]
    exact ⟨by decide, rfl⟩
  have i0 : ((n : Int) == 0) = false := by rw [beq_eq_false_iff_ne]; omega
  have hl := Lib.hid hn
  clear hn
  go_enter Try.func37, Try.ntmps37
  go_wp2_with fail
  obtain ⟨T1, T2, T3⟩ := twoB w 24 74 #[.int .i64 0, .int .i64 0, .int .i64 0, .int .i64 0, .slice none 0 0, .int .i64 0, .bool false] #[.int .i64 0, .bool false, .bool false, .bool false, .int .i64 0, .int .i64 0, .int .i64 0]
  generalize (w.alloc (.cells #[.int .i64 0, .int .i64 0, .int .i64 0, .int .i64 0, .slice none 0 0, .int .i64 0, .bool false] 24)).alloc (.cells #[.int .i64 0, .bool false, .bool false, .bool false, .int .i64 0, .int .i64 0, .int .i64 0] 74) = w1 at *
  have B1 := Lib.hid T1
  have B2 := Lib.hid T2
  have W1 := Lib.hid T3
  clear T1 T2 T3
  obtain ⟨tb, htb, hy0, hy1, hy2⟩ := info_parts o_u8
  go_loopw [5, 6, 7, 8, 9, 17] (fun dv v6 v7 v8 v9 i wr => ∃ (k m : Nat) (A2 : Option Addr) (c2 : Nat), k ≤ n ∧ i = .int .i64 k ∧ dv = .slice A2 m c2 ∧ Hid (m = (Apd.jdat ((vs.take k).map CV.cmd)).length) ∧ m ≤ 1000000 ∧
    Own wr w.heap.size 5 1 A2 m c2 (bcells (Apd.jdat ((vs.take k).map CV.cmd))) ∧ Blk wr w.heap.size 24 #[.int .i64 0, .int .i64 0, .int .i64 0, .int .i64 0, .slice none 0 0, .int .i64 0, .bool false] ∧
    (∃ f, Blk wr (w.heap.size + 1) 74 (Apd.hcl f) ∧ Hid (0 < k → ∃ x, vs[0]? = some x ∧ f = Apd.hds x.cmd)) ∧ Below w.heap.size w wr ∧ Hid (Apd.frE (vs.map CV.cmd) 0 n = Apd.frE (vs.map CV.cmd) k (n - k))) (fun _ _ _ _ _ i _ => n - (intOf i).toNat)
  case atStart => exact ⟨0, 0, none, 0, by omega, rfl, rfl, rfl, by omega, Own.none_ _ _ _ _ _, B1.out, ⟨(0, false, false, 0, 0, 0), B2.out, fun e => absurd e (by omega)⟩, W1.out, rfl⟩
  case round =>
    obtain ⟨k, m, A2, c2, hk, rfl, rfl, hm2, hml, hown, hR, ⟨⟨f0, f1, f2, f3, f4, f5⟩, hF, hf⟩, hbw, hfr⟩ := hrel
    by_cases hlt : k < n
    · have hkv : k < vs.length := by rw [hl.out]; exact hlt
      obtain ⟨b1, o1, rfl, hb1, hr1, hy1⟩ := (h.below hbw).at_ hkv
      have hx : vs[k]? = some vs[k] := List.getElem?_eq_getElem hkv
      have hyw := h.2 _ (List.getElem_mem hkv)
      generalize vs[k] = x at *
      obtain ⟨x0, x1, x2, x3, ⟨xa, xn, xc, xb⟩, x5, x6⟩ := x
      have p0 : (0 : Int) ≤ (k : Int) := by omega
      have p1 : (k : Int) < (n : Int) := by omega
      obtain ⟨lb, hlb⟩ : ∃ lb : Bool, decide (k + 1 = n) = lb := ⟨_, rfl⟩
      have i1 : ((k : Int) == (n : Int) - 1) = lb := by
        rw [← hlb, Bool.eq_iff_iff, beq_iff_eq, decide_eq_true_eq]; omega
      obtain ⟨a0, a1, a2, a3, a4b, a5, a6⟩ := cells7o hr1
      have a4 : wr.cell? ⟨b1, o1 + k * 7 + 4, none⟩ = some (.slice xa xn xc) := a4b
      clear a4b
      have HLk := Lib.hid (fun u => apdu_link x0 x1 x2 x3 xa xn xc x5 x6 lb u)
      clear hr1
      go_wp2_with fail
      go_at_call 55
      have K7 := Blk.new wr 24 #[I64 x0, I64 x1, I64 x2, I64 x3, .slice xa xn xc, I64 x5, .bool x6]
      have hs0 : Apd.stE (vs.map CV.cmd) k = (if Apd.lkE x0 x1 x2 x3 xn x5 x6 lb ≠ 0 then Apd.lkE x0 x1 x2 x3 xn x5 x6 lb else if ∀ x, vs[0]? = some x → Apd.hds ⟨x0, x1, x2, x3, xb, x5, x6⟩ = Apd.hds x.cmd then 0 else 4) := by
        have hxn : xb.length = xn := hy1.1
        have h0v : vs[0]? = some (vs[0]'(by omega)) := List.getElem?_eq_getElem (by omega)
        unfold Apd.stE
        rw [List.getElem?_map, List.getElem?_map, hx, h0v]
        simp only [Option.map_some, CV.cmd, List.length_map, hl.out, hlb, hxn, Option.some.injEq]
        split
        · rfl
        · congr 1
          simp
      refine (HLk.out _).mono ?_
      rintro e w2 ⟨rfl, b2⟩
      have HY1 := Lib.hid (((hy1.more hbw.size).alloc' (.cells #[I64 x0, I64 x1, I64 x2, I64 x3, .slice xa xn xc, I64 x5, .bool x6] 24)).after b2)
      have K7 := Lib.hid (K7.after b2)
      have HYW := Lib.hid hyw
      have hF7 := hF.lt
      clear hyw
      have HR2 := Lib.hid ((hR.alloc (.cells #[I64 x0, I64 x1, I64 x2, I64 x3, .slice xa xn xc, I64 x5, .bool x6] 24)).after b2)
      have HF2 := Lib.hid ((hF.alloc (.cells #[I64 x0, I64 x1, I64 x2, I64 x3, .slice xa xn xc, I64 x5, .bool x6] 24)).after b2)
      have HO2 := Lib.hid ((hown.alloc (.cells #[I64 x0, I64 x1, I64 x2, I64 x3, .slice xa xn xc, I64 x5, .bool x6] 24)).below b2)
      have W2 := Lib.hid (bgo (bal hbw (.cells #[I64 x0, I64 x1, I64 x2, I64 x3, .slice xa xn xc, I64 x5, .bool x6] 24)) b2)
      have hfr2 : Hid (Apd.frE (vs.map CV.cmd) k (n - k) = if Apd.stE (vs.map CV.cmd) k ≠ 0 then Apd.stE (vs.map CV.cmd) k else Apd.frE (vs.map CV.cmd) (k + 1) (n - (k + 1))) := by
        show _ = _
        obtain ⟨g, hg⟩ : ∃ g, n - k = g + 1 := ⟨n - k - 1, by omega⟩
        rw [hg, show n - (k + 1) = g by omega]; rfl
      have HS0 := Lib.hid hs0
      clear hs0 hy1 hR hF hown hbw b2 a0 a1 a2 a3 a4 a5 a6 HLk hlb
      have hjn : ∀ e : Int, e ≠ 0 → Apd.stE (vs.map CV.cmd) k = e → Apd.jnE (vs.map CV.cmd) = e := fun e he hs => by
        have h1 : Apd.frE (vs.map CV.cmd) 0 n = e := by rw [hfr.out, hfr2.out, hs, if_pos he]
        unfold Apd.jnE
        rw [if_neg (fun e2 => by have := congrArg List.length e2; rw [List.length_map, hl.out] at this; simp at this; omega), List.length_map, hl.out, h1, if_pos he]
      unfold Apd.hdV
      generalize Apd.lkE x0 x1 x2 x3 xn x5 x6 lb = E at *
      by_cases hE0 : E = 0
      case neg =>
        have HJ := Lib.hid (hjn E hE0 (by rw [HS0.out, if_pos hE0]))
        rw [if_neg hE0]
        have q1 : (E == 0) = false := beq_eq_false_iff_ne.2 hE0
        have q2 : (E != 0) = true := bne_iff_ne.2 hE0
        have HF3 : Hid (Blk (w2.alloc (.cells #[.int .i64 0, .bool false, .bool false, .bool false, .int .i64 0, .int .i64 0, .int .i64 0] 74)) (w.heap.size + 1) 74 #[.int .i64 f0, .bool f1, .bool false, .bool f2, .int .i64 f3, .int .i64 f4, .int .i64 f5]) := HF2.out.alloc _
        have HR3 := Lib.hid (HR2.out.alloc (.cells #[.int .i64 0, .bool false, .bool false, .bool false, .int .i64 0, .int .i64 0, .int .i64 0] 74))
        have W3 := Lib.hid (bal W2.out (.cells #[.int .i64 0, .bool false, .bool false, .bool false, .int .i64 0, .int .i64 0, .int .i64 0] 74))
        clear HS0 hjn HF2 HR2 W2 HO2 hfr2 hfr K7 HY1
        by_cases hk0 : k = 0
        · have j0 : ((k : Int) == 0) = true := by rw [hk0]; rfl
          clear hk0
          go_wp2_with (first
            | ((with_reducible show wpList _ _ _ (Oper.mk _ (Op.store 74 (Operand.tmp 4) (Operand.tmp 34)) _ _ _ _ :: _) _ _); refine wpList_store_row rfl 74 (.tmp 4) (.tmp 34) rfl (w.heap.size + 1) #[.int .i64 0, .bool false, .bool false, .bool false, .int .i64 0, .int .i64 0, .int .i64 0] rfl rfl 74 #[.int .i64 f0, .bool f1, .bool false, .bool f2, .int .i64 f3, .int .i64 f4, .int .i64 f5] HF3.out (by kernel_rfl) rfl (head_one _ _ _ _ _ _ _) ?_)
            | ((with_reducible show wpList _ _ _ (Oper.mk _ (Op.store 24 (Operand.tmp 2) (Operand.tmp 44)) _ _ _ _ :: _) _ _); refine wpList_store_row rfl 24 (.tmp 2) (.tmp 44) rfl w.heap.size #[I64 0, I64 0, I64 0, I64 0, .slice none 0 0, I64 0, .bool false] rfl rfl 24 #[.int .i64 0, .int .i64 0, .int .i64 0, .int .i64 0, .slice none 0 0, .int .i64 0, .bool false] (HR3.out.setRow_far (by omega) #[.int .i64 0, .bool false, .bool false, .bool false, .int .i64 0, .int .i64 0, .int .i64 0]) (by kernel_rfl) rfl (cmd_one _ _ _ _ _ _ _ _ _) ?_))
          refine bodyPost_ret (results_row_tmp rfl _ _ w.heap.size 24 _ (0, 0) _ rfl (by exact (HR3.out.setRow_far (g' := w.heap.size + 1) (by omega) #[.int .i64 0, .bool false, .bool false, .bool false, .int .i64 0, .int .i64 0, .int .i64 0]).setRow _) Try.underlying24 rfl (by kernel_rfl)) rfl ⟨by exact Below.setRow (Below.setRow W3.out (g := w.heap.size + 1) (Nat.le_succ _) #[.int .i64 0, .bool false, .bool false, .bool false, .int .i64 0, .int .i64 0, .int .i64 0]) (Nat.le_refl _) _, .inl ?_⟩
          rw [HJ.out]
          exact ⟨hE0, rfl⟩
        · have j0 : ((k : Int) == 0) = false := by rw [beq_eq_false_iff_ne]; omega
          go_wp2_with ((with_reducible show wpList _ _ _ (Oper.mk _ (Op.store 24 (Operand.tmp 2) (Operand.tmp 44)) _ _ _ _ :: _) _ _); refine wpList_store_row rfl 24 (.tmp 2) (.tmp 44) rfl w.heap.size #[I64 0, I64 0, I64 0, I64 0, .slice none 0 0, I64 0, .bool false] rfl rfl 24 #[.int .i64 0, .int .i64 0, .int .i64 0, .int .i64 0, .slice none 0 0, .int .i64 0, .bool false] (HR3.out) (by kernel_rfl) rfl (cmd_one _ _ _ _ _ _ _ _ _) ?_)
          refine bodyPost_ret (results_row_tmp rfl _ _ w.heap.size 24 _ (0, 0) _ rfl (by exact (HR3.out).setRow _) Try.underlying24 rfl (by kernel_rfl)) rfl ⟨by exact Below.setRow (W3.out) (Nat.le_refl _) _, .inl ?_⟩
          rw [HJ.out]
          exact ⟨hE0, rfl⟩
      subst hE0
      rw [if_pos rfl]
      have hjd : Hid (Apd.jdat ((vs.take (k + 1)).map CV.cmd) = Apd.jdat ((vs.take k).map CV.cmd) ++ xb) := by
        show _ = _
        rw [List.take_succ_eq_append_getElem hkv]
        have e : vs[k]'hkv = ⟨x0, x1, x2, x3, ⟨xa, xn, xc, xb⟩, x5, x6⟩ := by rw [List.getElem?_eq_getElem hkv] at hx; injection hx
        rw [e]
        simp [Apd.jdat, CV.cmd]
      have HXN := Lib.hid HY1.out.1
      have hmx : m + xn ≤ 1000000 := by
        have h1 := jdat_le (vs.map CV.cmd) (k + 1)
        rw [← List.map_take, hjd.out, List.length_append, ← hm2.out, HXN.out] at h1
        omega
      have hcc : HS0.out = HS0.out := rfl
      clear hcc
      have hds : Apd.hds ⟨x0, x1, x2, x3, xb, x5, x6⟩ = (x0 % 4, x0 / 4 % 2 == 1, x0 / 128 == 1, x1, x2, x3) := rfl
      have HS1 := HS0.out
      rw [if_neg (fun e => e rfl), hds] at HS1
      have hx0c : k = 0 → Apd.stE (vs.map CV.cmd) k = 0 ∧ (x0 % 4, x0 / 4 % 2 == 1, x0 / 128 == 1, x1, x2, x3) = Apd.hds (⟨x0, x1, x2, x3, ⟨xa, xn, xc, xb⟩, x5, x6⟩ : CV).cmd := fun e => by
        refine ⟨?_, rfl⟩
        rw [HS1, if_pos]
        intro y hy
        rw [e] at hx
        rw [hx] at hy
        injection hy with hy
        rw [← hy]; rfl
      generalize x0 % 4 = c0 at *
      generalize (x0 / 4 % 2 == 1) = c1 at *
      generalize (x0 / 128 == 1) = c2' at *
      by_cases hk0 : k = 0
      · have HF3 : Hid (Blk (w2.alloc (.cells #[.int .i64 c0, .bool c1, .bool false, .bool c2', I64 x1, I64 x2, I64 x3] 74)) (w.heap.size + 1) 74 #[.int .i64 f0, .bool f1, .bool false, .bool f2, .int .i64 f3, .int .i64 f4, .int .i64 f5]) := HF2.out.alloc _
        have j0 : ((k : Int) == 0) = true := by rw [hk0]; rfl
        have HST := Lib.hid (hx0c hk0).1
        have HFK : Hid (∃ x, vs[0]? = some x ∧ (c0, c1, c2', x1, x2, x3) = Apd.hds x.cmd) := ⟨_, by rw [← hk0]; exact hx, (hx0c hk0).2⟩
        have hFS := HF3.out.setRow #[.int .i64 c0, .bool c1, .bool false, .bool c2', I64 x1, I64 x2, I64 x3]
        have hNS := Blk.setRow_far (Blk.new w2 74 #[.int .i64 c0, .bool c1, .bool false, .bool c2', I64 x1, I64 x2, I64 x3]) (g' := w.heap.size + 1) (by have := HF2.out.lt; omega) #[.int .i64 c0, .bool c1, .bool false, .bool c2', I64 x1, I64 x2, I64 x3]
        have hK7 := Blk.setRow_far (K7.out.alloc (.cells #[.int .i64 c0, .bool c1, .bool false, .bool c2', I64 x1, I64 x2, I64 x3] 74)) (g' := w.heap.size + 1) (by omega) #[.int .i64 c0, .bool c1, .bool false, .bool c2', I64 x1, I64 x2, I64 x3]
        have HR3 := Lib.hid (Blk.setRow_far (HR2.out.alloc (.cells #[.int .i64 c0, .bool c1, .bool false, .bool c2', I64 x1, I64 x2, I64 x3] 74)) (g' := w.heap.size + 1) (by omega) #[.int .i64 c0, .bool c1, .bool false, .bool c2', I64 x1, I64 x2, I64 x3])
        have W3 := Lib.hid (Below.setRow (bal W2.out (.cells #[.int .i64 c0, .bool c1, .bool false, .bool c2', I64 x1, I64 x2, I64 x3] 74)) (g := w.heap.size + 1) (Nat.le_succ _) #[.int .i64 c0, .bool c1, .bool false, .bool c2', I64 x1, I64 x2, I64 x3])
        have HO3 := Lib.hid ((HO2.out.alloc (.cells #[.int .i64 c0, .bool c1, .bool false, .bool c2', I64 x1, I64 x2, I64 x3] 74)).setRow_ne HF3.out (by decide) #[.int .i64 c0, .bool c1, .bool false, .bool c2', I64 x1, I64 x2, I64 x3])
        have HY3 := Lib.hid ((HYW.out.below W3.out).more W3.out.size)
        have HFS := Lib.hid hFS
        have t4 := hK7.cell 4
        have r0 := hFS.cell 0
        have r1 := hFS.cell 1
        have r2 := hFS.cell 2
        have r3 := hFS.cell 3
        have r4 := hFS.cell 4
        have r5 := hFS.cell 5
        have r6 := hFS.cell 6
        have s0 := hNS.cell 0
        have s1 := hNS.cell 1
        have s2 := hNS.cell 2
        have s3 := hNS.cell 3
        have s4 := hNS.cell 4
        have s5 := hNS.cell 5
        have s6 := hNS.cell 6
        clear hjn hFS hNS hK7 HS0 HS1 hx0c hds hf HF2 HR2 W2 HO2 K7 HY1 hk0
        go_wp2_with (first
          | ((with_reducible show wpList _ _ _ (Oper.mk _ (Op.store 74 (Operand.tmp 4) (Operand.tmp 34)) _ _ _ _ :: _) _ _); refine wpList_store_row rfl 74 (.tmp 4) (.tmp 34) rfl (w.heap.size + 1) #[.int .i64 c0, .bool c1, .bool false, .bool c2', I64 x1, I64 x2, I64 x3] rfl rfl 74 #[.int .i64 f0, .bool f1, .bool false, .bool f2, .int .i64 f3, .int .i64 f4, .int .i64 f5] HF3.out (by kernel_rfl) rfl (head_one _ _ _ _ _ _ _) ?_)
          | (at_builtin; refine wpList_append _ rfl (.tmp 46) (.tmp 48) 22 rfl w.heap.size 5 tb _ 1 1 Try.underlying22 htb hy0 hy1 hy2 rfl (by omega) A2 m c2 _ rfl (by exact HO3.out) _ xa xn xc (bcells xb) rfl (by exact HY3.out.2.2) (by rw [length_bcells, HY3.out.1]; omega) (bcells_one _) (by unfold maxLen; omega) (by omega) (by exact W3.out.size) ?_; intro A4 c4 w4 hown4 hg4 hat4))
        have W4 := HO3.out.grown hg4 W3.out W3.out.size
        have HR4 : Blk w4 w.heap.size 24 #[.int .i64 0, .int .i64 0, .int .i64 0, .int .i64 0, .slice none 0 0, .int .i64 0, .bool false] := (hg4.block _ HR3.out.lt (own_not_at HO3.out HR3.out (by decide)).symm).trans HR3.out
        have HF4 : Blk w4 (w.heap.size + 1) 74 (Apd.hcl (c0, c1, c2', x1, x2, x3)) := (hg4.block _ HFS.out.lt (own_not_at HO3.out HFS.out (by decide)).symm).trans HFS.out
        go_roundw
        case rel => exact ⟨k + 1, m + xn, A4, c4, by omega, by go_num, rfl, by show _ = _; rw [hjd.out, List.length_append, ← hm2.out, HXN.out], hmx, by rw [hjd.out, bcells_append]; exact hown4, HR4, ⟨(c0, c1, c2', x1, x2, x3), HF4, fun _ => HFK.out⟩, W4, by show _ = _; rw [hfr.out, hfr2.out, HST.out, if_neg (fun e => e rfl)]⟩
        case measure => simp [intOf]; omega
      · have j0 : ((k : Int) == 0) = false := by rw [beq_eq_false_iff_ne]; omega
        obtain ⟨xf, hxf, hff⟩ := hf.out (by omega)
        have HF3 : Hid (Blk (w2.alloc (.cells #[.int .i64 c0, .bool c1, .bool false, .bool c2', I64 x1, I64 x2, I64 x3] 74)) (w.heap.size + 1) 74 #[.int .i64 f0, .bool f1, .bool false, .bool f2, .int .i64 f3, .int .i64 f4, .int .i64 f5]) := HF2.out.alloc _
        have HR3 := Lib.hid (HR2.out.alloc (.cells #[.int .i64 c0, .bool c1, .bool false, .bool c2', I64 x1, I64 x2, I64 x3] 74))
        have W3 := Lib.hid (bal W2.out (.cells #[.int .i64 c0, .bool c1, .bool false, .bool c2', I64 x1, I64 x2, I64 x3] 74))
        have HO3 := Lib.hid (HO2.out.alloc (.cells #[.int .i64 c0, .bool c1, .bool false, .bool c2', I64 x1, I64 x2, I64 x3] 74))
        have HY3 := Lib.hid ((HYW.out.below W3.out).more W3.out.size)
        have hK7 := K7.out.alloc (.cells #[.int .i64 c0, .bool c1, .bool false, .bool c2', I64 x1, I64 x2, I64 x3] 74)
        have t4 := hK7.cell 4
        by_cases hq : (c0, c1, c2', x1, x2, x3) = (f0, f1, f2, f3, f4, f5)
        · have hst : Apd.stE (vs.map CV.cmd) k = 0 := by
            rw [HS1, if_pos]
            intro y hy
            rw [hxf] at hy
            injection hy with hy
            rw [← hy, ← hff]; exact hq
          have HST := Lib.hid hst
          have HFK := Lib.hid (hf.out (by omega))
          have hfc : (#[.int .i64 f0, .bool f1, .bool false, .bool f2, .int .i64 f3, .int .i64 f4, .int .i64 f5] : Array Value) = #[.int .i64 c0, .bool c1, .bool false, .bool c2', I64 x1, I64 x2, I64 x3] := by
            simp only [Prod.mk.injEq] at hq
            obtain ⟨h1, h2, h3, h4, h5, h6⟩ := hq
            rw [h1, h2, h3, h4, h5, h6]
          have hFS : Blk (w2.alloc (.cells #[.int .i64 c0, .bool c1, .bool false, .bool c2', I64 x1, I64 x2, I64 x3] 74)) (w.heap.size + 1) 74 #[.int .i64 c0, .bool c1, .bool false, .bool c2', I64 x1, I64 x2, I64 x3] := by have := HF3.out; rw [hfc] at this; exact this
          have r0 := hFS.cell 0
          have r1 := hFS.cell 1
          have r2 := hFS.cell 2
          have r3 := hFS.cell 3
          have r4 := hFS.cell 4
          have r5 := hFS.cell 5
          have r6 := hFS.cell 6
          clear hjn hFS hst HS0 HS1 hx0c hds HF2 HR2 W2 HO2 K7 HY1 hk0 hq hfc hff hxf hK7
          go_wp2_with (at_builtin; refine wpList_append _ rfl (.tmp 46) (.tmp 48) 22 rfl w.heap.size 5 tb _ 1 1 Try.underlying22 htb hy0 hy1 hy2 rfl (by omega) A2 m c2 _ rfl (by exact HO3.out) _ xa xn xc (bcells xb) rfl (by exact HY3.out.2.2) (by rw [length_bcells, HY3.out.1]; omega) (bcells_one _) (by unfold maxLen; omega) (by omega) (by exact W3.out.size) ?_; intro A4 c4 w4 hown4 hg4 hat4)
          have W4 := HO3.out.grown hg4 W3.out W3.out.size
          have HR4 : Blk w4 w.heap.size 24 #[.int .i64 0, .int .i64 0, .int .i64 0, .int .i64 0, .slice none 0 0, .int .i64 0, .bool false] := (hg4.block _ HR3.out.lt (own_not_at HO3.out HR3.out (by decide)).symm).trans HR3.out
          have HF4 : Blk w4 (w.heap.size + 1) 74 (Apd.hcl (f0, f1, f2, f3, f4, f5)) := (hg4.block _ HF3.out.lt (own_not_at HO3.out HF3.out (by decide)).symm).trans HF3.out
          go_roundw
          case rel => exact ⟨k + 1, m + xn, A4, c4, by omega, by go_num, rfl, by show _ = _; rw [hjd.out, List.length_append, ← hm2.out, HXN.out], hmx, by rw [hjd.out, bcells_append]; exact hown4, HR4, ⟨(f0, f1, f2, f3, f4, f5), HF4, fun _ => HFK.out⟩, W4, by show _ = _; rw [hfr.out, hfr2.out, HST.out, if_neg (fun e => e rfl)]⟩
          case measure => simp [intOf]; omega
        · have hst : Apd.stE (vs.map CV.cmd) k = 4 := by
            rw [HS1, if_neg]
            intro hh
            exact hq ((hh xf hxf).trans hff.symm)
          have r0 := HF3.out.cell 0
          have r1 := HF3.out.cell 1
          have r2 := HF3.out.cell 2
          have r3 := HF3.out.cell 3
          have r4 := HF3.out.cell 4
          have r5 := HF3.out.cell 5
          have r6 := HF3.out.cell 6
          clear HS0 HS1 hx0c hds HF2 HR2 W2 HO2 K7 HY1 hk0 hff hxf hK7 hf
          have hq2 : ¬ (c0 = f0 ∧ c1 = f1 ∧ c2' = f2 ∧ x1 = f3 ∧ x2 = f4 ∧ x3 = f5) := fun ⟨h1, h2, h3, h4, h5, h6⟩ => hq (by rw [h1, h2, h3, h4, h5, h6])
          have hE0 : (4 : Int) ≠ 0 := by decide
          have HJ := Lib.hid (hjn 4 hE0 hst)
          have hcs : ¬ c0 = f0 ∨ (c0 = f0 ∧ ¬ c1 = f1) ∨ (c0 = f0 ∧ c1 = f1 ∧ ¬ c2' = f2) ∨ (c0 = f0 ∧ c1 = f1 ∧ c2' = f2 ∧ ¬ x1 = f3) ∨ (c0 = f0 ∧ c1 = f1 ∧ c2' = f2 ∧ x1 = f3 ∧ ¬ x2 = f4) ∨ (c0 = f0 ∧ c1 = f1 ∧ c2' = f2 ∧ x1 = f3 ∧ x2 = f4 ∧ ¬ x3 = f5) := by
            by_cases e0 : c0 = f0
            · by_cases e1 : c1 = f1
              · by_cases e2 : c2' = f2
                · by_cases e3 : x1 = f3
                  · by_cases e4 : x2 = f4
                    · exact .inr (.inr (.inr (.inr (.inr ⟨e0, e1, e2, e3, e4, fun e5 => hq2 ⟨e0, e1, e2, e3, e4, e5⟩⟩))))
                    · exact .inr (.inr (.inr (.inr (.inl ⟨e0, e1, e2, e3, e4⟩))))
                  · exact .inr (.inr (.inr (.inl ⟨e0, e1, e2, e3⟩)))
                · exact .inr (.inr (.inl ⟨e0, e1, e2⟩))
              · exact .inr (.inl ⟨e0, e1⟩)
            · exact .inl e0
          clear hq hst hjn hfr hfr2 hq2
          rcases hcs with e0 | ⟨rfl, e1⟩ | ⟨rfl, rfl, e2⟩ | ⟨rfl, rfl, rfl, e3⟩ | ⟨rfl, rfl, rfl, rfl, e4⟩ | ⟨rfl, rfl, rfl, rfl, rfl, e5⟩
          all_goals
            go_wp2_with ((with_reducible show wpList _ _ _ (Oper.mk _ (Op.store 24 (Operand.tmp 2) (Operand.tmp 44)) _ _ _ _ :: _) _ _); refine wpList_store_row rfl 24 (.tmp 2) (.tmp 44) rfl w.heap.size #[I64 0, I64 0, I64 0, I64 0, .slice none 0 0, I64 0, .bool false] rfl rfl 24 #[.int .i64 0, .int .i64 0, .int .i64 0, .int .i64 0, .slice none 0 0, .int .i64 0, .bool false] HR3.out (by kernel_rfl) rfl (cmd_one _ _ _ _ _ _ _ _ _) ?_)
            refine bodyPost_ret (results_row_tmp rfl _ _ w.heap.size 24 _ (0, 0) _ rfl (by exact (HR3.out).setRow _) Try.underlying24 rfl (by kernel_rfl)) rfl ⟨by exact Below.setRow (W3.out) (Nat.le_refl _) _, .inl ?_⟩
            rw [HJ.out]
            exact ⟨hE0, rfl⟩
    · obtain rfl : k = n := by omega
      have htk : vs.take k = vs := List.take_of_length_le (by rw [hl.out]; omega)
      rw [htk] at hm2 hown
      have h0f : Apd.frE (vs.map CV.cmd) 0 k = 0 := by rw [hfr.out, Nat.sub_self]; rfl
      have hne : vs.map CV.cmd ≠ [] := fun e2 => by have := congrArg List.length e2; rw [List.length_map, hl.out] at this; simp at this; omega
      have hjE : Apd.jnE (vs.map CV.cmd) = if 65535 < (Apd.jdat (vs.map CV.cmd)).length then 3 else 0 := by
        unfold Apd.jnE
        rw [if_neg hne, List.length_map, hl.out, h0f, if_neg (fun e => e rfl)]
      rw [← hm2.out] at hjE
      have HM := hm2
      by_cases hbig : 65535 < m
      · have HJ := Lib.hid (hjE.trans (if_pos hbig))
        have i2 : (65535 : Int) < (m : Int) := by omega
        have HR3 := Lib.hid hR
        clear hjE hf hF hfr h0f hne htk
        go_wp2_with ((with_reducible show wpList _ _ _ (Oper.mk _ (Op.store 24 (Operand.tmp 2) (Operand.tmp 54)) _ _ _ _ :: _) _ _); refine wpList_store_row rfl 24 (.tmp 2) (.tmp 54) rfl w.heap.size #[I64 0, I64 0, I64 0, I64 0, .slice none 0 0, I64 0, .bool false] rfl rfl 24 #[.int .i64 0, .int .i64 0, .int .i64 0, .int .i64 0, .slice none 0 0, .int .i64 0, .bool false] HR3.out (by kernel_rfl) rfl (cmd_one _ _ _ _ _ _ _ _ _) ?_)
        refine bodyPost_ret (results_row_tmp rfl _ _ w.heap.size 24 _ (0, 0) _ rfl (by exact HR3.out.setRow _) Try.underlying24 rfl (by kernel_rfl)) rfl ⟨by exact Below.setRow hbw (Nat.le_refl _) _, .inl ?_⟩
        rw [HJ.out]
        exact ⟨by decide, rfl⟩
      · have HJ := Lib.hid (hjE.trans (if_neg hbig))
        obtain ⟨q, rfl⟩ : ∃ q, k = q + 1 := ⟨k - 1, by omega⟩
        have hqv : q < vs.length := by rw [hl.out]; omega
        obtain ⟨b1, o1, rfl, hb1, hr1, -⟩ := (h.below hbw).at_ hqv
        have hx : vs[q]? = some vs[q] := List.getElem?_eq_getElem hqv
        generalize vs[q] = x at *
        obtain ⟨x0, x1, x2, x3, ⟨xa, xn, xc, xb⟩, x5, x6⟩ := x
        have HC : Hid (Apd.jnC (vs.map CV.cmd) = ⟨x0, x1, x2, x3, Apd.jdat (vs.map CV.cmd), x5, x6 || decide (255 < (Apd.jdat (vs.map CV.cmd)).length)⟩) := by
          show _ = _
          unfold Apd.jnC
          rw [List.getLast?_eq_getElem?, List.length_map, hl.out, List.getElem?_map, show q + 1 - 1 = q by omega, hx]
          rfl
        obtain ⟨a0, a1, a2, a3, a4b, a5, a6⟩ := cells7o hr1
        have a4 : wr.cell? ⟨b1, o1 + q * 7 + 4, none⟩ = some (.slice xa xn xc) := a4b
        clear a4b hr1
        have HR3 := Lib.hid (fun o => hR.alloc o)
        have W3 := Lib.hid (fun o => bal hbw o)
        have HO3 := Lib.hid (fun o => hown.alloc o)
        clear hjE hf hF hfr h0f hne htk hx hR hown
        have i2 : ¬ (65535 : Int) < (m : Int) := by omega
        cases x6 with
        | true =>
          have HC2 : Hid (Apd.jnC (vs.map CV.cmd) = ⟨x0, x1, x2, x3, Apd.jdat (vs.map CV.cmd), x5, true⟩) := by show _ = _; rw [HC.out]; simp
          go_wp2_with ((with_reducible show wpList _ _ _ (Oper.mk _ (Op.store 24 (Operand.tmp 2) (Operand.tmp 71)) _ _ _ _ :: _) _ _); refine wpList_store_row rfl 24 (.tmp 2) (.tmp 71) rfl w.heap.size #[I64 x0, I64 x1, I64 x2, I64 x3, .slice A2 m c2, I64 x5, .bool true] rfl rfl 24 #[.int .i64 0, .int .i64 0, .int .i64 0, .int .i64 0, .slice none 0 0, .int .i64 0, .bool false] (HR3.out _) (by kernel_rfl) rfl (cmd_one _ _ _ _ _ _ _ _ _) ?_)
          refine bodyPost_ret (results_row_tmp rfl _ _ w.heap.size 24 _ (0, 0) _ rfl (by exact (HR3.out _).setRow _) Try.underlying24 rfl (by kernel_rfl)) rfl ⟨by exact Below.setRow (W3.out _) (Nat.le_refl _) _, .inr ⟨HJ.out, A2, c2, ?_, ?_⟩⟩
          · rw [HC2.out]
            show _ = Ending.returned (.tuple #[cmdV x0 x1 x2 x3 A2 (Apd.jdat (vs.map CV.cmd)).length c2 x5 _, _])
            rw [← HM.out]
            rfl
          · rw [HC2.out]
            show Own _ _ _ _ _ (Apd.jdat (vs.map CV.cmd)).length _ (bcells (Apd.jdat (vs.map CV.cmd)))
            rw [← HM.out]
            exact (HO3.out _).setRow_ne (HR3.out _) (by decide) _
        | false =>
          by_cases hb2 : 255 < m
          · have i3 : (255 : Int) < (m : Int) := by omega
            have HC2 : Hid (Apd.jnC (vs.map CV.cmd) = ⟨x0, x1, x2, x3, Apd.jdat (vs.map CV.cmd), x5, true⟩) := by show _ = _; rw [HC.out, ← HM.out]; simp [hb2]
            go_wp2_with ((with_reducible show wpList _ _ _ (Oper.mk _ (Op.store 24 (Operand.tmp 2) (Operand.tmp 71)) _ _ _ _ :: _) _ _); refine wpList_store_row rfl 24 (.tmp 2) (.tmp 71) rfl w.heap.size #[I64 x0, I64 x1, I64 x2, I64 x3, .slice A2 m c2, I64 x5, .bool true] rfl rfl 24 #[.int .i64 0, .int .i64 0, .int .i64 0, .int .i64 0, .slice none 0 0, .int .i64 0, .bool false] (HR3.out _) (by kernel_rfl) rfl (cmd_one _ _ _ _ _ _ _ _ _) ?_)
            refine bodyPost_ret (results_row_tmp rfl _ _ w.heap.size 24 _ (0, 0) _ rfl (by exact (HR3.out _).setRow _) Try.underlying24 rfl (by kernel_rfl)) rfl ⟨by exact Below.setRow (W3.out _) (Nat.le_refl _) _, .inr ⟨HJ.out, A2, c2, ?_, ?_⟩⟩
            · rw [HC2.out]
              show _ = Ending.returned (.tuple #[cmdV x0 x1 x2 x3 A2 (Apd.jdat (vs.map CV.cmd)).length c2 x5 _, _])
              rw [← HM.out]
              rfl
            · rw [HC2.out]
              show Own _ _ _ _ _ (Apd.jdat (vs.map CV.cmd)).length _ (bcells (Apd.jdat (vs.map CV.cmd)))
              rw [← HM.out]
              exact (HO3.out _).setRow_ne (HR3.out _) (by decide) _
          · have i3 : ¬ (255 : Int) < (m : Int) := by omega
            have HC2 : Hid (Apd.jnC (vs.map CV.cmd) = ⟨x0, x1, x2, x3, Apd.jdat (vs.map CV.cmd), x5, false⟩) := by show _ = _; rw [HC.out, ← HM.out]; simp [hb2]
            go_wp2_with ((with_reducible show wpList _ _ _ (Oper.mk _ (Op.store 24 (Operand.tmp 2) (Operand.tmp 71)) _ _ _ _ :: _) _ _); refine wpList_store_row rfl 24 (.tmp 2) (.tmp 71) rfl w.heap.size #[I64 x0, I64 x1, I64 x2, I64 x3, .slice A2 m c2, I64 x5, .bool false] rfl rfl 24 #[.int .i64 0, .int .i64 0, .int .i64 0, .int .i64 0, .slice none 0 0, .int .i64 0, .bool false] (HR3.out _) (by kernel_rfl) rfl (cmd_one _ _ _ _ _ _ _ _ _) ?_)
            refine bodyPost_ret (results_row_tmp rfl _ _ w.heap.size 24 _ (0, 0) _ rfl (by exact (HR3.out _).setRow _) Try.underlying24 rfl (by kernel_rfl)) rfl ⟨by exact Below.setRow (W3.out _) (Nat.le_refl _) _, .inr ⟨HJ.out, A2, c2, ?_, ?_⟩⟩
            · rw [HC2.out]
              show _ = Ending.returned (.tuple #[cmdV x0 x1 x2 x3 A2 (Apd.jdat (vs.map CV.cmd)).length c2 x5 _, _])
              rw [← HM.out]
              rfl
            · rw [HC2.out]
              show Own _ _ _ _ _ (Apd.jdat (vs.map CV.cmd)).length _ (bcells (Apd.jdat (vs.map CV.cmd)))
              rw [← HM.out]
              exact (HO3.out _).setRow_ne (HR3.out _) (by decide) _
end Go.Proofs.Ytapfiapjefnjjaa
