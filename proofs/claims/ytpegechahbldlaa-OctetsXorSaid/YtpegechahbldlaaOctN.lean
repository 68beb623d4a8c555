/-
  The walk of the reference of strings of bytes: Split.
-/
import Derived.Test.YtpegechahbldlaaOctM
namespace Go.Proofs.Ytpegechahbldlaa
open Go.RowKit

/-- What the reference's Split leaves. -/
def RSp (w : World) (l : List (List UInt8)) (er : Int) (e : Ending) (w' : World) : Prop :=
  ∃ (A : Option Addr) (c : Nat) (vs : List SV), e = .returned (.tuple #[.slice A l.length c, .int .i64 er]) ∧ vs.map SV.bs = l ∧ Byts w' w'.heap.size A vs ∧ Below w.heap.size w w'

theorem split_more (cur rest : List UInt8) (m : Nat) (hm : 1 ≤ m) (hc : cur.length = m) : Oct.split (cur ++ rest) m = cur :: Oct.split rest m := by
  rw [Oct.split_cons _ m hm (by rw [List.length_append]; omega)]
  rw [List.take_append_of_le_length (by omega), List.take_of_length_le (by omega), List.drop_append_of_le_length (by omega), List.drop_of_length_le (by omega)]
  rfl
theorem split_last (cur : List UInt8) (m : Nat) (hm : 1 ≤ m) (h0 : 0 < cur.length) (hc : cur.length ≤ m) : Oct.split cur m = [cur] := by
  rw [Oct.split_cons _ m hm h0, List.take_of_length_le hc, List.drop_of_length_le hc]; rfl
theorem drop_get (l : List UInt8) (k : Nat) (h : k < l.length) : l.drop k = l.getD k 0 :: l.drop (k + 1) := by
  rw [List.drop_eq_getElem_cons h]; simp [List.getD, List.getElem?_eq_getElem h]
/-- All blocks of the pieces lie below B0. -/
def Under (B0 : Nat) (vs : List SV) : Prop := ∀ v ∈ vs, v.c = 0 ∨ ∀ g, v.a.map (·.block) = some g → g < B0
theorem Own.under {w : World} {base : Nat} {t : TypeId} {s n c : Nat} {A : Option Addr} {cs : List Value} (h : Own w base t s A n c cs) : c = 0 ∨ ∀ g, A.map (·.block) = some g → g < w.heap.size := by
  rcases Nat.eq_zero_or_pos c with h0 | h0
  · exact .inl h0
  · refine .inr fun g hg => ?_
    obtain ⟨g1, cur, rfl, _, hh, _⟩ := h.2.2.2 h0
    simp at hg
    subst hg
    exact (Array.getElem?_eq_some_iff.1 hh).1
theorem own_apart {w : World} {B0 : Nat} {t : TypeId} {s n c : Nat} {A A' : Option Addr} {c' : Nat} {cs : List Value} (h : Own w B0 t s A n c cs) (hu : c' = 0 ∨ ∀ g, A'.map (·.block) = some g → g < B0) : c' = 0 ∨ ∀ g, A'.map (·.block) = some g → ownAt A c ≠ some g := by
  refine hu.imp_right fun hh g hg e => ?_
  have h1 := (h.lt g e).1
  have h2 := hh g hg
  omega

set_option maxHeartbeats 4000000 in
theorem ref01_Split (A : Option Addr) (n c : Nat) (bs : List UInt8) (p : Int) (w : World) (h : Byt w w.heap.size A n c bs) (hn : n ≤ 1000000000) :
    Calls Try.prog 23 #[.slice A n c, .int .i64 p] w (RSp w (Oct.spB bs p) (Oct.spE p)) := by
  obtain ⟨ti, hti, hz0, hz1, hz2⟩ := info_parts o_sl
  obtain ⟨tu, htu, hy0, hy1, hy2⟩ := info_parts o_u8
  by_cases hp1 : p < 1
  · have e : Oct.spB bs p = [] ∧ Oct.spE p = 1 := by unfold Oct.spB Oct.spE; rw [if_pos hp1, if_pos hp1]; exact ⟨rfl, rfl⟩
    have E := Lib.hid e
    have t1 : decide (p < 1) = true := by simpa using hp1
    clear hp1 h e
    go_enter Try.func23, Try.ntmps23
    go_wp2_with fail
    go_ret2
    rw [E.out.1, E.out.2]
    exact ⟨none, 0, [], rfl, rfl, ⟨Row.nil _ _ _, fun v hv => (by cases hv)⟩, Below.refl _ _⟩
  obtain ⟨m, hpm⟩ := Int.eq_ofNat_of_zero_le (show 0 ≤ p by omega)
  have hm1 : 1 ≤ m := by omega
  have e : Oct.spB bs p = Oct.split bs m ∧ Oct.spE p = 0 := by unfold Oct.spB Oct.spE; rw [if_neg hp1, if_neg hp1, hpm]; exact ⟨rfl, rfl⟩
  have E := Lib.hid e
  subst hpm
  have t1 : decide ((m : Int) < 1) = false := by simpa using hp1
  have hl := Lib.hid h.1
  have hsl : (Oct.split bs m).length ≤ n := by rw [← h.1]; exact Oct.split_length_le m hm1 _ _ (Nat.le_refl _)
  have HSL := Lib.hid hsl
  have hr := h.2.2
  clear hp1 e hsl h
  go_enter Try.func23, Try.ntmps23
  go_wp2_with fail
  go_loopg [6, 7, 8] n (fun g v now i wr => ∃ (k : Nat) (A2 : Option Addr) (q c2 : Nat) (vs : List SV) (A' : Option Addr) (r c' : Nat) (cur : List UInt8) (B0 : Nat), k + g = n ∧ i = .int .i64 k ∧ q ≤ n ∧ r < m ∧ r ≤ k ∧ v = .slice A2 q c2 ∧ now = .slice A' r c' ∧
    Hid (vs.length = q) ∧ Hid (cur.length = r) ∧ Hid (k = n → r = 0) ∧ Hid (vs.map SV.bs ++ Oct.split (cur ++ bs.drop k) m = Oct.split bs m) ∧ Own wr w.heap.size 22 1 A2 q c2 (vs.map SV.val) ∧ w.heap.size ≤ B0 ∧ B0 ≤ wr.heap.size ∧ Own wr B0 5 1 A' r c' (bcells cur) ∧
    (∀ v ∈ vs, Own wr w.heap.size 5 1 v.a v.n v.c (bcells v.bs)) ∧ Under B0 vs ∧ Below w.heap.size w wr)
  case atStart => exact ⟨0, none, 0, 0, [], none, 0, 0, [], w.heap.size, by omega, rfl, by omega, by omega, by omega, rfl, rfl, rfl, rfl, Lib.hid (fun _ => rfl), Lib.hid rfl, Own.none_ _ _ _ _ _, Nat.le_refl _, Nat.le_refl _, Own.none_ _ _ _ _ _, fun v hv => (by cases hv), fun v hv => (by cases hv), Below.refl _ _⟩
  case round =>
    obtain ⟨k, A2, q, c2, vs, A', r, c', cur, B0, hk, rfl, hqn, hrm, hrn, rfl, rfl, hlv, hlc, hkr, heq, hout, hB0, hB1, hnow, hall, hun, hbw⟩ := hrel
    cases gk with
    | zero =>
      have hkn : k = n := by omega
      have hr0 := hkr.out hkn
      have hc0 : cur = [] := List.eq_nil_of_length_eq_zero (by rw [hlc.out]; exact hr0)
      have hv : Hid (vs.map SV.bs = Oct.split bs m) := by
        show _ = _
        rw [← heq.out, hc0, List.nil_append, List.drop_of_length_le (by rw [hl.out]; omega), Oct.split_nil, List.append_nil]
      have hk2 : Hid ((Oct.split bs m).length = q) := by show _ = _; rw [← hv.out, List.length_map]; exact hlv.out
      subst hkn
      clear hc0 hr0
      go_wp2_with fail
      go_ret2
      rw [E.out.1, E.out.2]
      refine ⟨A2, c2, vs, by rw [hk2.out]; rfl, hv.out, ⟨hout.row, fun v hv => (hall v hv).byt (Nat.le_refl _)⟩, hbw⟩
    | succ g =>
      have hkb : k < bs.length := by rw [hl.out]; omega
      obtain ⟨b1, o1, rfl, hb1, -⟩ := hr.at_ (j := k) (by rw [length_bcells]; exact hkb)
      have c1 := (hr.below hbw).byte k hkb
      have hdg := Lib.hid (drop_get bs k hkb)
      have i0 : (0 : Int) ≤ (k : Int) := by omega
      have i1 : (k : Int) < (n : Int) := by omega
      generalize hxx : bs.getD k 0 = x at *
      have HXX := Lib.hid hxx
      clear hxx
      have hnow0 : Own (wr.alloc (.cells #[B8 x] 5)) B0 5 1 A' r c' (bcells cur) := hnow.alloc _
      by_cases hfl : r + 1 = m ∨ k + 1 = n
      · have hsp : Oct.split (cur ++ x :: bs.drop (k + 1)) m = (cur ++ [x]) :: Oct.split (bs.drop (k + 1)) m := by
          rw [show cur ++ x :: bs.drop (k + 1) = (cur ++ [x]) ++ bs.drop (k + 1) by simp]
          by_cases hrm2 : r + 1 = m
          · exact split_more _ _ m hm1 (by rw [List.length_append, hlc.out]; exact hrm2)
          · have hkn : k + 1 = n := by omega
            rw [List.drop_of_length_le (show bs.length ≤ k + 1 by rw [hl.out]; omega), List.append_nil, Oct.split_nil]
            exact split_last _ m hm1 (by simp) (by rw [List.length_append, hlc.out]; simp; omega)
        have heq2 := heq.out
        rw [hdg.out, hsp] at heq2
        have hq1 : q + 1 ≤ n := by
          have h1 := congrArg List.length heq2
          rw [List.length_append, List.length_map, hlv.out, List.length_cons] at h1
          have := HSL.out
          omega
        have HEQ := Lib.hid heq2
        have hcond : ((r : Int) + 1 == (m : Int)) = true ∨ (((r : Int) + 1 == (m : Int)) = false ∧ ((k : Int) == (n : Int) - 1) = true) := by
          by_cases hrm2 : r + 1 = m
          · left; simp; omega
          · right; constructor
            · simp; omega
            · simp; omega
        clear hsp heq2 hfl
        rcases hcond with f1 | ⟨f1, f2⟩
        all_goals
          go_wp2_with (first
            | (at_builtin; refine wpList_append _ rfl (.tmp 17) (.tmp 22) 22 rfl B0 5 tu _ 1 1 Try.underlying22 htu hy0 hy1 hy2 rfl (by omega) A' r c' (bcells cur) rfl hnow0 (wr.heap.size + 1) (some ⟨wr.heap.size, 0, none⟩) 1 1 (bcells [x]) rfl (Row.new wr rfl) (by simp) (bcells_one _) (by unfold maxLen; omega) (by omega) (by simp; omega) ?_; intro A5 c5 w5 hown5 hg5 hat5; have hb5 : Below w.heap.size wr w5 := (hnow0.mono hB0).grown hg5 ((Below.refl _ _).alloc hbw.size _) (by simp; have := hbw.size; omega); have hbw5 := hbw.trans hb5; have hout5 := (hout.alloc (.cells #[B8 x] 5)).kept hg5 (Own.ne (hout.alloc _) hnow0 (by decide)))
            | (at_builtin; refine wpList_append _ rfl (.tmp 35) (.tmp 37) 33 rfl w.heap.size 22 ti _ 1 24 Try.underlying33 hti hz0 hz1 hz2 rfl (by omega) A2 q c2 (vs.map SV.val) rfl (hout5.alloc _) (w5.heap.size + 1) (some ⟨w5.heap.size, 0, none⟩) 1 1 [SV.val ⟨A5, r + 1, c5, cur ++ [x]⟩] rfl (Row.new w5 rfl) (by simp) (by simp [SV.val, Value.oneCell']) (by unfold maxLen; omega) (by omega) (by simp; have := hbw5.size; omega) ?_; intro A6 c6 w6 hown6 hg6 hat6))
          go_roundg g
          case measure => omega
          case rel =>
            have hbw6 : Below w.heap.size w w6 := (hout5.alloc _).grown hg6 (hbw5.alloc hbw5.size _) (by simp; have := hbw5.size; omega)
            have hall6 : ∀ v ∈ vs ++ [(⟨A5, r + 1, c5, cur ++ [x]⟩ : SV)], Own w6 w.heap.size 5 1 v.a v.n v.c (bcells v.bs) := by
              intro v hv
              rw [List.mem_append] at hv
              rcases hv with hv | hv
              · have h5 := (((hall v hv).alloc (.cells #[B8 x] 5)).kept hg5 (own_apart hnow0 (hun v hv))).alloc (.cells #[.slice A5 (r + 1) c5] 22)
                exact h5.kept hg6 (Own.ne h5 (hout5.alloc _) (by decide))
              · obtain rfl := List.mem_singleton.1 hv
                rw [← bcells_append] at hown5
                have h5 := (hown5.mono hB0).alloc (.cells #[.slice A5 (r + 1) c5] 22)
                exact h5.kept hg6 (Own.ne h5 (hout5.alloc _) (by decide))
            refine ⟨k + 1, A6, q + 1, c6, vs ++ [⟨A5, r + 1, c5, cur ++ [x]⟩], none, 0, 0, [], w6.heap.size, by omega, by go_num, hq1, by omega, by omega, rfl, rfl, by show _ = _; rw [List.length_append, hlv.out]; rfl, rfl, Lib.hid (fun _ => rfl), ?_, by rw [List.map_append]; exact hown6, hbw6.size, Nat.le_refl _, Own.none_ _ _ _ _ _, hall6, fun v hv => (hall6 v hv).under, hbw6⟩
            show _ = _
            rw [← HEQ.out]; simp
      · have f1 : ((r : Int) + 1 == (m : Int)) = false := by simp; omega
        have f2 : ((k : Int) == (n : Int) - 1) = false := by simp; omega
        have hfl2 : r + 1 < m ∧ k + 1 < n := by omega
        clear hfl
        go_wp2_with (at_builtin; refine wpList_append _ rfl (.tmp 17) (.tmp 22) 22 rfl B0 5 tu _ 1 1 Try.underlying22 htu hy0 hy1 hy2 rfl (by omega) A' r c' (bcells cur) rfl hnow0 (wr.heap.size + 1) (some ⟨wr.heap.size, 0, none⟩) 1 1 (bcells [x]) rfl (Row.new wr rfl) (by simp) (bcells_one _) (by unfold maxLen; omega) (by omega) (by simp; omega) ?_; intro A5 c5 w5 hown5 hg5 hat5)
        go_roundg g
        case measure => omega
        case rel =>
          have hb5 : Below w.heap.size wr w5 := (hnow0.mono hB0).grown hg5 ((Below.refl _ _).alloc hbw.size _) (by simp; have := hbw.size; omega)
          refine ⟨k + 1, A2, q, c2, vs, A5, r + 1, c5, cur ++ [x], B0, by omega, by go_num, by omega, by omega, by omega, rfl, rfl, hlv, by show _ = _; rw [List.length_append, hlc.out]; rfl, Lib.hid (fun h => by omega), ?_, ?_, hB0, by have := hg5.size; simp at this; omega, by rw [bcells_append]; exact hown5, ?_, hun, hbw.trans hb5⟩
          · show _ = _
            rw [← heq.out, hdg.out, List.append_assoc]; rfl
          · exact (hout.alloc _).kept hg5 (Own.ne (hout.alloc _) hnow0 (by decide))
          · intro v hv
            exact ((hall v hv).alloc _).kept hg5 (own_apart hnow0 (hun v hv))
end Go.Proofs.Ytpegechahbldlaa
