/-
  The walk of the library of strings of bytes: Split; and of its order.
-/
import Derived.Test.YtapfiapjefnjjaaOctE
namespace Go.Proofs.Ytapfiapjefnjjaa
open Go.RowKit

theorem o_sl : (Try.prog.info? 22).map (fun i => (i.zero, i.size, i.bytes)) = some (some (.slice none 0 0), 1, 24) := by kernel_rfl

/-- What a call leaves that hands back strings of its own and an error. -/
def SRes (t t' : TypeId) (w : World) (l : List (List UInt8)) (er : Int) (e : Ending) (w' : World) : Prop :=
  ∃ (A : Option Addr) (c : Nat) (vs : List SV), e = .returned (.tuple #[.slice A l.length c, .int .i64 er]) ∧ vs.map SV.bs = l ∧ Own w' w.heap.size t' 1 A l.length c (vs.map SV.val) ∧ (∀ v ∈ vs, Own w' w.heap.size t 1 v.a v.n v.c (bcells v.bs)) ∧ Below w.heap.size w w'

/-- Slices of different types lie in different blocks. -/
theorem Own.ne {w : World} {b b' : Nat} {t t' : TypeId} {s s' : Nat} {A A' : Option Addr} {n n' c c' : Nat} {cs cs' : List Value} (h : Own w b t s A n c cs) (h' : Own w b' t' s' A' n' c' cs') (hne : t ≠ t') : c = 0 ∨ ∀ g, A.map (·.block) = some g → ownAt A' c' ≠ some g := by
  rcases Nat.eq_zero_or_pos c with h0 | h0
  · exact .inl h0
  · refine .inr fun g hg => ?_
    obtain ⟨g1, cur, rfl, _, hh, _⟩ := h.2.2.2 h0
    simp at hg
    subst hg
    unfold ownAt
    split
    · simp
    · obtain ⟨g2, cur2, rfl, _, hh2, _⟩ := h'.2.2.2 (by omega)
      intro e
      simp at e
      subst e
      rw [hh] at hh2
      injection hh2 with hh2
      injection hh2 with _ ht
      exact hne ht
theorem Byt.drop {w : World} {B b o n c : Nat} {bs : List UInt8} (h : Byt w B (some ⟨b, o, none⟩) n c bs) (k : Nat) (hk : k ≤ n) : Byt w B (some ⟨b, o + k, none⟩) (n - k) (c - k) (bs.drop k) :=
  ⟨by rw [List.length_drop, h.1], by have := h.2.1; omega, h.2.2.bdrop k⟩
theorem Byt.take {w : World} {B n c : Nat} {A : Option Addr} {bs : List UInt8} (h : Byt w B A n c bs) (k d : Nat) (hk : k ≤ n) (hd : k ≤ d) : Byt w B A k d (bs.take k) :=
  ⟨by rw [List.length_take, h.1]; omega, hd, h.2.2.btake k⟩
theorem Byt.empty {w : World} {B c : Nat} {A : Option Addr} : Byt w B A 0 c [] := ⟨rfl, Nat.zero_le _, Row.nil _ _ _⟩

set_option maxHeartbeats 4000000 in
theorem octets_Split (A : Option Addr) (n c : Nat) (bs : List UInt8) (p : Int) (w : World) (h : Byt w w.heap.size A n c bs) (hn : n ≤ 1000000000) :
    Calls Try.prog 54 #[.slice A n c, .int .i64 p] w (SRes 5 22 w (Oct.spB bs p) (Oct.spE p)) := by
  obtain ⟨ti, hti, hz0, hz1, hz2⟩ := info_parts o_sl
  by_cases hp1 : p < 1
  · have e : Oct.spB bs p = [] ∧ Oct.spE p = 1 := by unfold Oct.spB Oct.spE; rw [if_pos hp1, if_pos hp1]; exact ⟨rfl, rfl⟩
    have E := Lib.hid e
    have t1 : decide (p < 1) = true := by simpa using hp1
    clear hp1 h e
    go_enter Try.func54, Try.ntmps54
    go_wp2_with fail
    go_ret2
    rw [E.out.1, E.out.2]
    exact ⟨none, 0, [], rfl, rfl, Own.none_ _ _ _ _ _, fun v hv => (by cases hv), Below.refl _ _⟩
  obtain ⟨m, hpm⟩ := Int.eq_ofNat_of_zero_le (show 0 ≤ p by omega)
  have hm1 : 1 ≤ m := by omega
  have e : Oct.spB bs p = Oct.split bs m ∧ Oct.spE p = 0 := by unfold Oct.spB Oct.spE; rw [if_neg hp1, if_neg hp1, hpm]; exact ⟨rfl, rfl⟩
  have E := Lib.hid e
  subst hpm
  have t1 : decide ((m : Int) < 1) = false := by simpa using hp1
  have hlen := h.1
  have hsl : (Oct.split bs m).length ≤ n := by rw [← hlen]; exact Oct.split_length_le m hm1 _ _ (Nat.le_refl _)
  have HSL := Lib.hid hsl
  clear hp1 e hlen hsl
  go_enter Try.func54, Try.ntmps54
  go_wp2_with fail
  go_loopg [6, 7] n (fun g v rest wr => ∃ (A2 : Option Addr) (k c2 : Nat) (vs : List SV) (A' : Option Addr) (r c' : Nat) (rl : List UInt8), r ≤ g ∧ r ≤ n ∧ k ≤ n ∧ v = .slice A2 k c2 ∧ rest = .slice A' r c' ∧
    Hid (vs.length = k) ∧ Hid (vs.map SV.bs ++ Oct.split rl m = Oct.split bs m) ∧ Byt wr w.heap.size A' r c' rl ∧ Own wr w.heap.size 22 1 A2 k c2 (vs.map SV.val) ∧ (∀ v ∈ vs, Own wr w.heap.size 5 1 v.a v.n v.c (bcells v.bs)) ∧ Below w.heap.size w wr)
  case atStart => exact ⟨none, 0, 0, [], A, n, c, bs, Nat.le_refl _, Nat.le_refl _, Nat.zero_le _, rfl, rfl, rfl, Lib.hid rfl, h, Own.none_ _ _ _ _ _, fun v hv => (by cases hv), Below.refl _ _⟩
  case round =>
    obtain ⟨A2, k, c2, vs, A', r, c', rl, hrg, hrn, hkn, rfl, rfl, hlv, heq, hy, hown, hall, hbw⟩ := hrel
    have hrl := Lib.hid hy.1
    by_cases hr0 : r = 0
    · subst hr0
      have hrl0 : rl = [] := List.eq_nil_of_length_eq_zero hrl.out
      have hv : Hid (vs.map SV.bs = Oct.split bs m) := by
        show _ = _
        rw [← heq.out, hrl0, Oct.split_nil, List.append_nil]
      have hk2 : Hid ((Oct.split bs m).length = k) := by show _ = _; rw [← hv.out, List.length_map]; exact hlv.out
      clear hrl0
      go_wp2_with fail
      go_ret2
      rw [E.out.1, E.out.2]
      refine ⟨A2, c2, vs, by rw [hk2.out]; rfl, hv.out, ?_, hall, hbw⟩
      rw [hk2.out]
      exact hown
    · obtain ⟨b1, o1, rfl, hb1⟩ := hy.at_ (by omega)
      obtain ⟨g, rfl⟩ : ∃ g, gk = g + 1 := ⟨gk - 1, by omega⟩
      have hcc := hy.2.1
      have hspl := Oct.split_cons rl m hm1 (by rw [hrl.out]; omega)
      have hkb : (vs.map SV.bs ++ Oct.split rl m).length ≤ n := by rw [heq.out]; exact HSL.out
      rw [hspl, List.length_append, List.length_map, hlv.out, List.length_cons] at hkb
      have HSP := Lib.hid hspl
      have hkn1 : k + 1 ≤ n := by omega
      have i0 : (0 : Int) < (r : Int) := by omega
      clear hspl hkb hr0
      by_cases hrm : m ≤ r
      · have hmn : min (m : Int) (r : Int) = (m : Int) := by omega
        have q1 : (m : Int) ≤ (c' : Int) := by omega
        have q2 : (m : Int) ≤ (r : Int) := by omega
        have q3 : (0 : Int) ≤ (m : Int) := by omega
        by_cases hcap : m = c'
        · subst hcap
          obtain rfl : r = m := by omega
          go_wp2_with fail
          refine (slices_Clone (some ⟨b1, o1, none⟩) r r (rl.take r) _ ((hy.more hbw.size).take r r (by omega) (by omega)) (by omega)).mono ?_
          rintro e w2 ⟨A3, c3, rfl, hown3, hb2⟩
          have hout : Own (w2.alloc (.cells #[.slice A3 r c3] 22)) w.heap.size 22 1 A2 k c2 (vs.map SV.val) := (hown.below hb2).alloc _
          have hpc : Own (w2.alloc (.cells #[.slice A3 r c3] 22)) w.heap.size 5 1 A3 r c3 (bcells (rl.take r)) := (hown3.mono hbw.size).alloc _
          have hb02 := hbw.trans (hb2.mono hbw.size)
          go_wp2_with (at_builtin; refine wpList_append _ rfl (.tmp 19) (.tmp 24) 70 rfl w.heap.size 22 ti _ 1 24 Try.underlying70 hti hz0 hz1 hz2 rfl (by omega) A2 k c2 (vs.map SV.val) rfl hout (w2.heap.size + 1) (some ⟨w2.heap.size, 0, none⟩) 1 1 [SV.val ⟨A3, r, c3, rl.take r⟩] rfl (Row.new w2 rfl) (by simp) (by simp [SV.val, Value.oneCell']) (by unfold maxLen; omega) (by omega) (by simp; have := hb02.size; omega) ?_; intro A4 c4 w4 hown4 hg4 hat4)
          go_roundg g
          case measure => omega
          case rel =>
            refine ⟨A4, k + 1, c4, vs ++ [⟨A3, r, c3, rl.take r⟩], (some ⟨b1, o1, none⟩), r - r, r - r, rl.drop r, by omega, by omega, hkn1, rfl, by first | rfl | simp, by show _ = _; rw [List.length_append, hlv.out]; (try rfl), by show _ = _; rw [← heq.out, HSP.out]; simp, (show Byt wr w.heap.size (some ⟨b1, o1, none⟩) (r - r) (r - r) (rl.drop r) by rw [show r - r = 0 by omega, show rl.drop r = [] from List.drop_eq_nil_of_le (by rw [hrl.out]; omega)]; exact Byt.empty).below (hout.grown hg4 ((hb2.mono hbw.size).alloc (by have := hb02.size; omega) _) (by simp; have := hb02.size; omega)), by rw [List.map_append]; exact hown4, ?_, hout.grown hg4 (hb02.alloc hb02.size _) (by simp; have := hb02.size; omega)⟩
            intro v hv
            rw [List.mem_append] at hv
            rcases hv with hv | hv
            · have h1 := ((hall v hv).below hb2).alloc (.cells #[.slice A3 r c3] 22)
              exact h1.kept hg4 ((Own.ne h1 hout (by decide)).imp_right fun hh q hq => hh q hq)
            · obtain rfl := List.mem_singleton.1 hv
              exact hpc.kept hg4 ((Own.ne hpc hout (by decide)).imp_right fun hh q hq => hh q hq)
        · have q4 : ¬ c' = m := by omega
          clear hcap
          go_wp2_with fail
          refine (slices_Clone (some ⟨b1, o1, none⟩) m c' (rl.take m) _ ((hy.more hbw.size).take m c' (by omega) (by omega)) (by omega)).mono ?_
          rintro e w2 ⟨A3, c3, rfl, hown3, hb2⟩
          have hout : Own (w2.alloc (.cells #[.slice A3 m c3] 22)) w.heap.size 22 1 A2 k c2 (vs.map SV.val) := (hown.below hb2).alloc _
          have hpc : Own (w2.alloc (.cells #[.slice A3 m c3] 22)) w.heap.size 5 1 A3 m c3 (bcells (rl.take m)) := (hown3.mono hbw.size).alloc _
          have hb02 := hbw.trans (hb2.mono hbw.size)
          go_wp2_with (at_builtin; refine wpList_append _ rfl (.tmp 19) (.tmp 24) 70 rfl w.heap.size 22 ti _ 1 24 Try.underlying70 hti hz0 hz1 hz2 rfl (by omega) A2 k c2 (vs.map SV.val) rfl hout (w2.heap.size + 1) (some ⟨w2.heap.size, 0, none⟩) 1 1 [SV.val ⟨A3, m, c3, rl.take m⟩] rfl (Row.new w2 rfl) (by simp) (by simp [SV.val, Value.oneCell']) (by unfold maxLen; omega) (by omega) (by simp; have := hb02.size; omega) ?_; intro A4 c4 w4 hown4 hg4 hat4)
          go_roundg g
          case measure => omega
          case rel =>
            refine ⟨A4, k + 1, c4, vs ++ [⟨A3, m, c3, rl.take m⟩], (some ⟨b1, o1 + m, none⟩), r - m, c' - m, rl.drop m, by omega, by omega, hkn1, rfl, by first | rfl | simp, by show _ = _; rw [List.length_append, hlv.out]; (try rfl), by show _ = _; rw [← heq.out, HSP.out]; simp [], (hy.drop m (by omega)).below (hout.grown hg4 ((hb2.mono hbw.size).alloc (by have := hb02.size; omega) _) (by simp; have := hb02.size; omega)), by rw [List.map_append]; exact hown4, ?_, hout.grown hg4 (hb02.alloc hb02.size _) (by simp; have := hb02.size; omega)⟩
            intro v hv
            rw [List.mem_append] at hv
            rcases hv with hv | hv
            · have h1 := ((hall v hv).below hb2).alloc (.cells #[.slice A3 m c3] 22)
              exact h1.kept hg4 ((Own.ne h1 hout (by decide)).imp_right fun hh q hq => hh q hq)
            · obtain rfl := List.mem_singleton.1 hv
              exact hpc.kept hg4 ((Own.ne hpc hout (by decide)).imp_right fun hh q hq => hh q hq)
      · have hmn : min (m : Int) (r : Int) = (r : Int) := by omega
        have q1 : (r : Int) ≤ (c' : Int) := by omega
        have q3 : (0 : Int) ≤ (r : Int) := by omega
        by_cases hcap : r = c'
        · subst hcap
          go_wp2_with fail
          refine (slices_Clone (some ⟨b1, o1, none⟩) r r (rl.take r) _ ((hy.more hbw.size).take r r (by omega) (by omega)) (by omega)).mono ?_
          rintro e w2 ⟨A3, c3, rfl, hown3, hb2⟩
          have hout : Own (w2.alloc (.cells #[.slice A3 r c3] 22)) w.heap.size 22 1 A2 k c2 (vs.map SV.val) := (hown.below hb2).alloc _
          have hpc : Own (w2.alloc (.cells #[.slice A3 r c3] 22)) w.heap.size 5 1 A3 r c3 (bcells (rl.take r)) := (hown3.mono hbw.size).alloc _
          have hb02 := hbw.trans (hb2.mono hbw.size)
          go_wp2_with (at_builtin; refine wpList_append _ rfl (.tmp 19) (.tmp 24) 70 rfl w.heap.size 22 ti _ 1 24 Try.underlying70 hti hz0 hz1 hz2 rfl (by omega) A2 k c2 (vs.map SV.val) rfl hout (w2.heap.size + 1) (some ⟨w2.heap.size, 0, none⟩) 1 1 [SV.val ⟨A3, r, c3, rl.take r⟩] rfl (Row.new w2 rfl) (by simp) (by simp [SV.val, Value.oneCell']) (by unfold maxLen; omega) (by omega) (by simp; have := hb02.size; omega) ?_; intro A4 c4 w4 hown4 hg4 hat4)
          go_roundg g
          case measure => omega
          case rel =>
            refine ⟨A4, k + 1, c4, vs ++ [⟨A3, r, c3, rl.take r⟩], (some ⟨b1, o1, none⟩), r - r, r - r, rl.drop r, by omega, by omega, hkn1, rfl, by first | rfl | simp, by show _ = _; rw [List.length_append, hlv.out]; (try rfl), by show _ = _; rw [← heq.out, HSP.out]; simp [List.take_of_length_le (show rl.length ≤ m by rw [hrl.out]; omega), List.take_of_length_le (show rl.length ≤ r by rw [hrl.out]; omega), List.drop_eq_nil_of_le (show rl.length ≤ m by rw [hrl.out]; omega), List.drop_eq_nil_of_le (show rl.length ≤ r by rw [hrl.out]; omega)], (show Byt wr w.heap.size (some ⟨b1, o1, none⟩) (r - r) (r - r) (rl.drop r) by rw [show r - r = 0 by omega, show rl.drop r = [] from List.drop_eq_nil_of_le (by rw [hrl.out]; omega)]; exact Byt.empty).below (hout.grown hg4 ((hb2.mono hbw.size).alloc (by have := hb02.size; omega) _) (by simp; have := hb02.size; omega)), by rw [List.map_append]; exact hown4, ?_, hout.grown hg4 (hb02.alloc hb02.size _) (by simp; have := hb02.size; omega)⟩
            intro v hv
            rw [List.mem_append] at hv
            rcases hv with hv | hv
            · have h1 := ((hall v hv).below hb2).alloc (.cells #[.slice A3 r c3] 22)
              exact h1.kept hg4 ((Own.ne h1 hout (by decide)).imp_right fun hh q hq => hh q hq)
            · obtain rfl := List.mem_singleton.1 hv
              exact hpc.kept hg4 ((Own.ne hpc hout (by decide)).imp_right fun hh q hq => hh q hq)
        · have q4 : ¬ c' = r := by omega
          clear hcap
          go_wp2_with fail
          refine (slices_Clone (some ⟨b1, o1, none⟩) r c' (rl.take r) _ ((hy.more hbw.size).take r c' (by omega) (by omega)) (by omega)).mono ?_
          rintro e w2 ⟨A3, c3, rfl, hown3, hb2⟩
          have hout : Own (w2.alloc (.cells #[.slice A3 r c3] 22)) w.heap.size 22 1 A2 k c2 (vs.map SV.val) := (hown.below hb2).alloc _
          have hpc : Own (w2.alloc (.cells #[.slice A3 r c3] 22)) w.heap.size 5 1 A3 r c3 (bcells (rl.take r)) := (hown3.mono hbw.size).alloc _
          have hb02 := hbw.trans (hb2.mono hbw.size)
          go_wp2_with (at_builtin; refine wpList_append _ rfl (.tmp 19) (.tmp 24) 70 rfl w.heap.size 22 ti _ 1 24 Try.underlying70 hti hz0 hz1 hz2 rfl (by omega) A2 k c2 (vs.map SV.val) rfl hout (w2.heap.size + 1) (some ⟨w2.heap.size, 0, none⟩) 1 1 [SV.val ⟨A3, r, c3, rl.take r⟩] rfl (Row.new w2 rfl) (by simp) (by simp [SV.val, Value.oneCell']) (by unfold maxLen; omega) (by omega) (by simp; have := hb02.size; omega) ?_; intro A4 c4 w4 hown4 hg4 hat4)
          go_roundg g
          case measure => omega
          case rel =>
            refine ⟨A4, k + 1, c4, vs ++ [⟨A3, r, c3, rl.take r⟩], (some ⟨b1, o1 + r, none⟩), r - r, c' - r, rl.drop r, by omega, by omega, hkn1, rfl, by first | rfl | simp, by show _ = _; rw [List.length_append, hlv.out]; (try rfl), by show _ = _; rw [← heq.out, HSP.out]; simp [List.take_of_length_le (show rl.length ≤ m by rw [hrl.out]; omega), List.take_of_length_le (show rl.length ≤ r by rw [hrl.out]; omega), List.drop_eq_nil_of_le (show rl.length ≤ m by rw [hrl.out]; omega), List.drop_eq_nil_of_le (show rl.length ≤ r by rw [hrl.out]; omega)], (hy.drop r (by omega)).below (hout.grown hg4 ((hb2.mono hbw.size).alloc (by have := hb02.size; omega) _) (by simp; have := hb02.size; omega)), by rw [List.map_append]; exact hown4, ?_, hout.grown hg4 (hb02.alloc hb02.size _) (by simp; have := hb02.size; omega)⟩
            intro v hv
            rw [List.mem_append] at hv
            rcases hv with hv | hv
            · have h1 := ((hall v hv).below hb2).alloc (.cells #[.slice A3 r c3] 22)
              exact h1.kept hg4 ((Own.ne h1 hout (by decide)).imp_right fun hh q hq => hh q hq)
            · obtain rfl := List.mem_singleton.1 hv
              exact hpc.kept hg4 ((Own.ne hpc hout (by decide)).imp_right fun hh q hq => hh q hq)
end Go.Proofs.Ytapfiapjefnjjaa
