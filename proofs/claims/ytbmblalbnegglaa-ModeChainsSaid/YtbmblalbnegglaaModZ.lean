/-
  The statements of the modes, walked: two strings of blocks.
-/
import Derived.Test.YtbmblalbnegglaaModY
import Derived.Laws.Concat
namespace Go.Proofs.Ytbmblalbnegglaa
open Go.RowKit

theorem few_four (A A' A'' A4 : Option Addr) (n c n' c' n'' c'' n4 c4 : Nat) (key iv d y : List UInt8) (w : World) (hk : Byt w w.heap.size A n c key) (hv : Byt w w.heap.size A' n' c' iv) (hd : Byt w w.heap.size A'' n'' c'' d) (h4 : Byt w w.heap.size A4 n4 c4 y) :
    Calls Try.prog 11 #[.slice (some ⟨w.heap.size, 0, none⟩) 4 4] (w.alloc (.cells #[.slice A n c, .slice A' n' c', .slice A'' n'' c'', .slice A4 n4 c4] 22)) fun e w' =>
      e = .returned (.bool (decide (n ≤ 1000) && (decide (n' ≤ 1000) && (decide (n'' ≤ 1000) && decide (n4 ≤ 1000))))) ∧ w.alloc (.cells #[.slice A n c, .slice A' n' c', .slice A'' n'' c'', .slice A4 n4 c4] 22) = w' := by
  have hu := (Below.refl w.heap.size w).alloc (Nat.le_refl _) (.cells #[.slice A n c, .slice A' n' c', .slice A'' n'' c'', .slice A4 n4 c4] 22)
  have hby : Byts (w.alloc (.cells #[.slice A n c, .slice A' n' c', .slice A'' n'' c'', .slice A4 n4 c4] 22)) (w.alloc (.cells #[.slice A n c, .slice A' n' c', .slice A'' n'' c'', .slice A4 n4 c4] 22)).heap.size (some ⟨w.heap.size, 0, none⟩) [⟨A, n, c, key⟩, ⟨A', n', c', iv⟩, ⟨A'', n'', c'', d⟩, ⟨A4, n4, c4, y⟩] := by
    refine ⟨(Blk.new w 22 _).row, fun v hm => ?_⟩
    rcases List.mem_cons.1 hm with rfl | hm
    · exact (hk.below hu).more hu.size
    rcases List.mem_cons.1 hm with rfl | hm
    · exact (hv.below hu).more hu.size
    rcases List.mem_cons.1 hm with rfl | hm
    · exact (hd.below hu).more hu.size
    · obtain rfl := List.mem_singleton.1 hm
      exact (h4.below hu).more hu.size
  refine (law20_few _ 4 4 _ _ hby rfl (by omega)).mono ?_
  rintro e w' ⟨rfl, h⟩
  exact ⟨by simp [fewB], h⟩

theorem chain_plain (key iv x y : List UInt8) (h1 : key.length = 16) (h2 : iv.length = 8) (hx : x.length % 8 = 0) (hy : y.length % 8 = 0) :
    Mod.cbE key iv x = 0 ∧ (Mod.cbB key iv x false).length = x.length ∧ Mod.cbE key iv (x ++ y) = 0 ∧ (Mod.cbB key iv (x ++ y) false).length = x.length + y.length ∧
    (x.length = 0 → Mod.cbE key iv y = 0 ∧ (Mod.cbB key iv y false).length = y.length ∧ Mod.cbB key iv x false ++ Mod.cbB key iv y false = Mod.cbB key iv (x ++ y) false) ∧
    (0 < x.length → Mod.cbE key ((Mod.cbB key iv x false).drop (x.length - 8)) y = 0 ∧ (Mod.cbB key ((Mod.cbB key iv x false).drop (x.length - 8)) y false).length = y.length ∧
      Mod.cbB key iv x false ++ Mod.cbB key ((Mod.cbB key iv x false).drop (x.length - 8)) y false = Mod.cbB key iv (x ++ y) false) := by
  obtain ⟨m, hm⟩ : ∃ m, x.length = 8 * m := ⟨x.length / 8, by omega⟩
  obtain ⟨k, hk⟩ : ∃ k, y.length = 8 * k := ⟨y.length / 8, by omega⟩
  have hxy : (x ++ y).length = 8 * (m + k) := by rw [List.length_append, hm, hk]; omega
  have e1 := Mod.cb_ok key iv x false h1 h2 hx
  have e2 := Mod.cb_ok key iv (x ++ y) false h1 h2 (by rw [hxy]; omega)
  have d1 : x.length / 8 = m := by omega
  have d2 : (x ++ y).length / 8 = m + k := by omega
  have d3 : y.length / 8 = k := by omega
  have a := Mod.eSt_append key iv x y m k hm
  have v1 : Mod.cbB key iv x false = (Mod.eSt key iv x m).1 := by rw [e1.2, d1]; rfl
  have v2 : Mod.cbB key iv (x ++ y) false = (Mod.eSt key iv x m).1 ++ (Mod.eSt key (Mod.eSt key iv x m).2 y k).1 := by
    rw [e2.2, d2]
    show (Mod.eSt key iv (x ++ y) (m + k)).1 = _
    rw [a]
  refine ⟨e1.1, by rw [v1, Mod.eSt_length, hm], e2.1, by rw [v2, List.length_append, Mod.eSt_length, Mod.eSt_length, hm, hk], fun h0 => ?_, fun h0 => ?_⟩
  · have hm0 : m = 0 := by omega
    have e3 := Mod.cb_ok key iv y false h1 h2 hy
    have v3 : Mod.cbB key iv y false = (Mod.eSt key iv y k).1 := by rw [e3.2, d3]; rfl
    refine ⟨e3.1, by rw [v3, Mod.eSt_length, hk], ?_⟩
    rw [v1, v2, v3, hm0]
    rfl
  · have hl : (Mod.cbB key iv x false).drop (x.length - 8) = (Mod.eSt key iv x m).2 := by rw [v1, hm]; exact Mod.eSt_last key iv x m (by omega)
    rw [hl]
    have hy8 := Mod.eSt_y key iv x m h2
    have e3 := Mod.cb_ok key (Mod.eSt key iv x m).2 y false h1 hy8 hy
    have v3 : Mod.cbB key (Mod.eSt key iv x m).2 y false = (Mod.eSt key (Mod.eSt key iv x m).2 y k).1 := by rw [e3.2, d3]; rfl
    refine ⟨e3.1, by rw [v3, Mod.eSt_length, hk], ?_⟩
    rw [v1, v2, v3]
theorem bytes_cat (a b : List UInt8) : (⟨a.toArray⟩ : ByteArray) ++ ⟨b.toArray⟩ = ⟨(a ++ b).toArray⟩ := by
  apply ByteArray.ext
  rw [ByteArray.data_append]
  simp

set_option maxHeartbeats 4000000 in
theorem law_ModeChains (A A' A'' A4 : Option Addr) (n c n' c' n'' c'' n4 c4 : Nat) (key iv x y : List UInt8) (w : World) (hk : Byt w w.heap.size A n c key) (hv : Byt w w.heap.size A' n' c' iv) (hx : Byt w w.heap.size A'' n'' c'' x) (hy : Byt w w.heap.size A4 n4 c4 y) :
    Calls Try.prog 6 #[.slice A n c, .slice A' n' c', .slice A'' n'' c'', .slice A4 n4 c4] w fun e w' => e = .returned (.bool true) ∧ Below w.heap.size w w' := by
  obtain ⟨ti, hti, hz0, hz1, hz2⟩ := info_parts o_u8
  have HF := Lib.hid (few_four A A' A'' A4 n c n' c' n'' c'' n4 c4 key iv x y w hk hv hx hy)
  have hu := (Below.refl w.heap.size w).alloc (Nat.le_refl _) (.cells #[.slice A n c, .slice A' n' c', .slice A'' n'' c'', .slice A4 n4 c4] 22)
  have hsz : w.heap.size ≤ (w.alloc (.cells #[.slice A n c, .slice A' n' c', .slice A'' n'' c'', .slice A4 n4 c4] 22)).heap.size := hu.size
  by_cases hb : n ≤ 1000 ∧ n' ≤ 1000 ∧ n'' ≤ 1000 ∧ n4 ≤ 1000
  case neg =>
    have hff : (decide (n ≤ 1000) && (decide (n' ≤ 1000) && (decide (n'' ≤ 1000) && decide (n4 ≤ 1000)))) = false := by
      by_cases h1 : n ≤ 1000 <;> by_cases h2 : n' ≤ 1000 <;> by_cases h3 : n'' ≤ 1000 <;> by_cases h4 : n4 ≤ 1000 <;> simp [h1, h2, h3, h4]
      exact absurd ⟨h1, h2, h3, h4⟩ hb
    clear hk hv hx hy hb
    go_enter Try.func6, Try.ntmps6
    go_wp2_with (first
      | (go_at_call 11; refine HF.out.mono ?_; rintro e w1 ⟨rfl, rfl⟩; rw [hff])
      | (go_at_call 12; refine (law20_works _).mono ?_; rintro e w4 ⟨rfl, hb4⟩))
    go_ret
    exact ⟨rfl, hu.trans (hb4.mono hsz)⟩
  have hff : (decide (n ≤ 1000) && (decide (n' ≤ 1000) && (decide (n'' ≤ 1000) && decide (n4 ≤ 1000)))) = true := by simp [hb.1, hb.2.1, hb.2.2.1, hb.2.2.2]
  by_cases hx8 : n'' % 8 = 0
  case neg =>
    have t1 : ((n'' : Int) % 8 != 0) = true := by rw [bne_iff_ne]; omega
    clear hk hv hx hy hb
    go_enter Try.func6, Try.ntmps6
    go_wp2_with (first
      | (go_at_call 11; refine HF.out.mono ?_; rintro e w1 ⟨rfl, rfl⟩; rw [hff])
      | (go_at_call 12; refine (law20_works _).mono ?_; rintro e w4 ⟨rfl, hb4⟩))
    go_ret
    exact ⟨rfl, hu.trans (hb4.mono hsz)⟩
  have t1 : ((n'' : Int) % 8 != 0) = false := by rw [bne_eq_false_iff_eq]; omega
  by_cases hy8 : n4 % 8 = 0
  case neg =>
    have t2 : ((n4 : Int) % 8 != 0) = true := by rw [bne_iff_ne]; omega
    clear hk hv hx hy hb
    go_enter Try.func6, Try.ntmps6
    go_wp2_with (first
      | (go_at_call 11; refine HF.out.mono ?_; rintro e w1 ⟨rfl, rfl⟩; rw [hff])
      | (go_at_call 12; refine (law20_works _).mono ?_; rintro e w4 ⟨rfl, hb4⟩))
    go_ret
    exact ⟨rfl, hu.trans (hb4.mono hsz)⟩
  have t2 : ((n4 : Int) % 8 != 0) = false := by rw [bne_eq_false_iff_eq]; omega
  by_cases h16 : n = 16
  case neg =>
    have t3 : ((n : Int) != 16) = true := by rw [bne_iff_ne]; omega
    clear hk hv hx hy hb
    go_enter Try.func6, Try.ntmps6
    go_wp2_with (first
      | (go_at_call 11; refine HF.out.mono ?_; rintro e w1 ⟨rfl, rfl⟩; rw [hff])
      | (go_at_call 12; refine (law20_works _).mono ?_; rintro e w4 ⟨rfl, hb4⟩))
    go_ret
    exact ⟨rfl, hu.trans (hb4.mono hsz)⟩
  subst h16
  by_cases h8 : n' = 8
  case neg =>
    have t3 : ((n' : Int) != 8) = true := by rw [bne_iff_ne]; omega
    clear hk hv hx hy hb
    go_enter Try.func6, Try.ntmps6
    go_wp2_with (first
      | (go_at_call 11; refine HF.out.mono ?_; rintro e w1 ⟨rfl, rfl⟩; rw [hff])
      | (go_at_call 12; refine (law20_works _).mono ?_; rintro e w4 ⟨rfl, hb4⟩))
    go_ret
    exact ⟨rfl, hu.trans (hb4.mono hsz)⟩
  subst h8
  obtain ⟨p1, p2, p3, p4, p5, p6⟩ := chain_plain key iv x y hk.1 hv.1 (by rw [hx.1]; exact hx8) (by rw [hy.1]; exact hy8)
  rw [hx.1, hy.1] at *
  have hxn := hb.2.2.1
  have hyn := hb.2.2.2
  have h1 : ∀ (u : World), Below w.heap.size w u → Calls Try.prog 13 #[.slice A 16 c, .slice A' 8 c', .slice A'' n'' c''] u fun e u' => ∃ A2 c2, e = .returned (.tuple #[.slice A2 n'' c2, .int .i64 0]) ∧ Byt u' u'.heap.size A2 n'' c2 (Mod.cbB key iv x false) ∧ Below u.heap.size u u' := fun u hbu => by
    refine (mode_EncryptCBC A A' A'' 16 8 n'' c c' c'' key iv x u ((hk.below hbu).more hbu.size) ((hv.below hbu).more hbu.size) ((hx.below hbu).more hbu.size) (by omega)).mono ?_
    rintro e u' ⟨A2, c2, rfl, ho, hb2⟩
    have hby := ho.byt (Nat.le_refl _)
    rw [p2] at hby ⊢
    rw [p1]
    exact ⟨A2, c2, rfl, hby, hb2⟩
  have h2 : ∀ (u : World) (A9 : Option Addr) (c9 : Nat), Below w.heap.size w u → Byt u u.heap.size A9 (n'' + n4) c9 (x ++ y) → Calls Try.prog 13 #[.slice A 16 c, .slice A' 8 c', .slice A9 (n'' + n4) c9] u fun e u' => ∃ A2 c2, e = .returned (.tuple #[.slice A2 (n'' + n4) c2, .int .i64 0]) ∧ Byt u' u'.heap.size A2 (n'' + n4) c2 (Mod.cbB key iv (x ++ y) false) ∧ Below u.heap.size u u' := fun u A9 c9 hbu h9 => by
    refine (mode_EncryptCBC A A' A9 16 8 (n'' + n4) c c' c9 key iv _ u ((hk.below hbu).more hbu.size) ((hv.below hbu).more hbu.size) h9 (by omega)).mono ?_
    rintro e u' ⟨A2, c2, rfl, ho, hb2⟩
    have hby := ho.byt (Nat.le_refl _)
    rw [p4] at hby ⊢
    rw [p3]
    exact ⟨A2, c2, rfl, hby, hb2⟩
  have h3 : ∀ (u : World) (A9 : Option Addr) (c9 : Nat) (f : List UInt8), Below w.heap.size w u → Byt u u.heap.size A9 8 c9 f → Mod.cbE key f y = 0 → (Mod.cbB key f y false).length = n4 → Calls Try.prog 13 #[.slice A 16 c, .slice A9 8 c9, .slice A4 n4 c4] u fun e u' => ∃ A2 c2, e = .returned (.tuple #[.slice A2 n4 c2, .int .i64 0]) ∧ Byt u' u'.heap.size A2 n4 c2 (Mod.cbB key f y false) ∧ Below u.heap.size u u' := fun u A9 c9 f hbu h9 q1 q2 => by
    refine (mode_EncryptCBC A A9 A4 16 8 n4 c c9 c4 key f y u ((hk.below hbu).more hbu.size) h9 ((hy.below hbu).more hbu.size) (by omega)).mono ?_
    rintro e u' ⟨A2, c2, rfl, ho, hb2⟩
    have hby := ho.byt (Nat.le_refl _)
    rw [q2] at hby ⊢
    rw [q1]
    exact ⟨A2, c2, rfl, hby, hb2⟩
  have H1 := Lib.hid h1
  have H2 := Lib.hid h2
  have H3 := Lib.hid h3
  have HV := Lib.hid hv
  have HX := Lib.hid hx
  have HY := Lib.hid hy
  have P5 := Lib.hid p5
  have P6 := Lib.hid p6
  clear h1 h2 h3 hk hv hx hy p1 p2 p3 p4 p5 p6 hb
  go_enter Try.func6, Try.ntmps6
  go_wp2_with (first
    | (go_at_call 11; refine HF.out.mono ?_; rintro e w1 ⟨rfl, rfl⟩; rw [hff])
    | (at_builtin; (refine wpList_append _ rfl (.tmp 47) (.tmp 48) 22 rfl w.heap.size 5 ti _ 1 1 Try.underlying22 hti hz0 hz1 hz2 rfl (by omega) none 0 0 (bcells []) rfl (Own.none_ _ _ _ _ _) w.heap.size A'' n'' c'' (bcells x) rfl (HX.out.below hu).2.2 (by rw [length_bcells, HX.out.1]; omega) (bcells_one _) (by unfold maxLen; omega) (by omega) hsz ?_); intro A8 c8 w8 hown8 hg8 hat8; (have hb8 := (Own.none_ (w.alloc (.cells #[.slice A 16 c, .slice A' 8 c', .slice A'' n'' c'', .slice A4 n4 c4] 22)) w.heap.size 5 1 none).grown hg8 hu hsz; replace hown8 : Own w8 w.heap.size 5 1 A8 n'' c8 (bcells x) := by rw [Nat.zero_add] at hown8; exact hown8))
    | (at_builtin; refine wpList_append _ rfl (.tmp 49) (.tmp 50) 22 rfl w.heap.size 5 ti _ 1 1 Try.underlying22 hti hz0 hz1 hz2 rfl (by omega) A8 n'' c8 (bcells x) rfl hown8 w.heap.size A4 n4 c4 (bcells y) rfl (HY.out.below hb8).2.2 (by rw [length_bcells, HY.out.1]; omega) (bcells_one _) (by unfold maxLen; omega) (by omega) hb8.size ?_; intro A9 c9 w9 hown9 hg9 hat9; have hb9 := hown8.grown hg9 hb8 hb8.size))
  have hA : Byt w9 w9.heap.size A9 (n'' + n4) c9 (x ++ y) := by
    rw [← bcells_append] at hown9
    exact hown9.byt (Nat.le_refl _)
  have HA := Lib.hid hA
  clear hA hown9
  refine (H1.out _ hb9).mono ?_
  rintro e w5 ⟨A5, c5, rfl, hy5, hb5⟩
  have hB5 := hb9.trans (hb5.mono hb9.size)
  by_cases h0 : n'' = 0
  · have t5 : decide ((8 : Int) ≤ (n'' : Int)) = false := decide_eq_false (by omega)
    obtain ⟨q1, q2, q3⟩ := P5.out h0
    have Q3 := Lib.hid q3
    have HIV := Lib.hid ((HV.out.below hB5).more hB5.size)
    have HC := Lib.hid (H3.out w5 A' c' iv hB5 HIV.out q1 q2)
    clear q1 q2 q3 h0 P5 P6
    go_wp2_with fail
    refine HC.out.mono ?_
    rintro e w6 ⟨A6, c6, rfl, hy6, hb6⟩
    have hB6 := hB5.trans (hb6.mono hB5.size)
    go_wp2_with fail
    refine (H2.out _ A9 c9 hB6 ((HA.out.below hb5).below (hb6.mono hb5.size) |>.more (Nat.le_trans hb5.size hb6.size))).mono ?_
    rintro e w7 ⟨A7, c7, rfl, hy7, hb7⟩
    have hB7 := hB6.trans (hb7.mono hB6.size)
    have hs5 := byt_string (P := Try.prog) 22 5 Try.underlying22 Try.underlying5 ((hy5.below hb6).below (hb7.mono hb6.size)) 9 Try.underlying9
    have hs6 := byt_string (P := Try.prog) 22 5 Try.underlying22 Try.underlying5 (hy6.below hb7) 9 Try.underlying9
    have hs7 := byt_string (P := Try.prog) 22 5 Try.underlying22 Try.underlying5 hy7 9 Try.underlying9
    have hcat := bytes_cat (Mod.cbB key iv x false) (Mod.cbB key iv y false)
    rw [Q3.out] at hcat
    have hz5 : (⟨(Mod.cbB key iv x false).toArray⟩ : ByteArray).size ≤ 1000 := by show (Mod.cbB key iv x false).length ≤ 1000; rw [hy5.1]; exact hxn
    have hz6 : (⟨(Mod.cbB key iv y false).toArray⟩ : ByteArray).size ≤ 1000 := by show (Mod.cbB key iv y false).length ≤ 1000; rw [hy6.1]; exact hyn
    clear hy5 hy6 hy7
    generalize (⟨(Mod.cbB key iv x false).toArray⟩ : ByteArray) = s1 at *
    generalize (⟨(Mod.cbB key iv y false).toArray⟩ : ByteArray) = s2 at *
    generalize (⟨(Mod.cbB key iv (x ++ y) false).toArray⟩ : ByteArray) = s3 at *
    have hz56 : s1.size + s2.size ≤ 9223372036854775807 := by omega
    have hadd := fun u : World => run_string_add_sum (P := Try.prog) (w := u) s1 s2 hz56
    go_wp2_with (go_at_call 12; refine (law20_works _).mono ?_; rintro e w10 ⟨rfl, hb10⟩)
    go_ret
    exact ⟨rfl, hB7.trans (hb10.mono hB7.size)⟩
  · have t5 : decide ((8 : Int) ≤ (n'' : Int)) = true := decide_eq_true (by omega)
    obtain ⟨q1, q2, q3⟩ := P6.out (by omega)
    obtain ⟨q, hq⟩ : ∃ q, n'' = q + 8 := ⟨n'' - 8, by omega⟩
    have hq8 : n'' - 8 = q := by omega
    rw [hq8] at q1 q2 q3
    obtain ⟨b5, o5, rfl, -⟩ := hy5.at_ (by omega)
    have hcc := hy5.2.1
    have hyd : Byt w5 w5.heap.size (some ⟨b5, o5 + q, none⟩) 8 (c5 - q) ((Mod.cbB key iv x false).drop q) := by
      have h1 := hy5.drop q (by omega)
      rw [show n'' - q = 8 by omega] at h1
      exact h1
    have Q3 := Lib.hid q3
    have HC := Lib.hid (H3.out w5 _ _ _ hB5 hyd q1 q2)
    have hsub : (n'' : Int) - 8 = (q : Int) := by omega
    have hq0 : (0 : Int) ≤ (q : Int) := by omega
    have hqn : (q : Int) ≤ (n'' : Int) := by omega
    have hnq : n'' - q = 8 := by omega
    have hcq : ¬ c5 = q := by omega
    clear q1 q2 q3 h0 P5 P6 hyd hq hq8
    go_wp2_with fail
    refine HC.out.mono ?_
    rintro e w6 ⟨A6, c6, rfl, hy6, hb6⟩
    have hB6 := hB5.trans (hb6.mono hB5.size)
    go_wp2_with fail
    refine (H2.out _ A9 c9 hB6 ((HA.out.below hb5).below (hb6.mono hb5.size) |>.more (Nat.le_trans hb5.size hb6.size))).mono ?_
    rintro e w7 ⟨A7, c7, rfl, hy7, hb7⟩
    have hB7 := hB6.trans (hb7.mono hB6.size)
    have hs5 := byt_string (P := Try.prog) 22 5 Try.underlying22 Try.underlying5 ((hy5.below hb6).below (hb7.mono hb6.size)) 9 Try.underlying9
    have hs6 := byt_string (P := Try.prog) 22 5 Try.underlying22 Try.underlying5 (hy6.below hb7) 9 Try.underlying9
    have hs7 := byt_string (P := Try.prog) 22 5 Try.underlying22 Try.underlying5 hy7 9 Try.underlying9
    have hcat := bytes_cat (Mod.cbB key iv x false) (Mod.cbB key ((Mod.cbB key iv x false).drop q) y false)
    rw [Q3.out] at hcat
    have hz5 : (⟨(Mod.cbB key iv x false).toArray⟩ : ByteArray).size ≤ 1000 := by show (Mod.cbB key iv x false).length ≤ 1000; rw [hy5.1]; exact hxn
    have hz6 : (⟨(Mod.cbB key ((Mod.cbB key iv x false).drop q) y false).toArray⟩ : ByteArray).size ≤ 1000 := by show (Mod.cbB key ((Mod.cbB key iv x false).drop q) y false).length ≤ 1000; rw [hy6.1]; exact hyn
    clear hy5 hy6 hy7
    generalize (⟨(Mod.cbB key iv x false).toArray⟩ : ByteArray) = s1 at *
    generalize (⟨(Mod.cbB key ((Mod.cbB key iv x false).drop q) y false).toArray⟩ : ByteArray) = s2 at *
    generalize (⟨(Mod.cbB key iv (x ++ y) false).toArray⟩ : ByteArray) = s3 at *
    have hz56 : s1.size + s2.size ≤ 9223372036854775807 := by omega
    have hadd := fun u : World => run_string_add_sum (P := Try.prog) (w := u) s1 s2 hz56
    go_wp2_with (go_at_call 12; refine (law20_works _).mono ?_; rintro e w10 ⟨rfl, hb10⟩)
    go_ret
    exact ⟨rfl, hB7.trans (hb10.mono hB7.size)⟩
end Go.Proofs.Ytbmblalbnegglaa
