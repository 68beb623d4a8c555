/-
  The walks of the reference of strings of bytes: digit, Parse, Hex.
-/
import Derived.Test.YtpegechahbldlaaOctJ
namespace Go.Proofs.Ytpegechahbldlaa
open Go.RowKit

theorem ref01_digit (r : Nat) (w : World) (hr : r < 256) :
    Calls Try.prog 36 #[.int .u8 (r : Int)] w fun e w' => e = .returned (.int .i64 (Oct.dv r)) ∧ w = w' := by
  by_cases h1 : 48 ≤ r
  · by_cases h2 : r ≤ 57
    · have e : Oct.dv r = (r : Int) - 48 := by unfold Oct.dv; rw [if_pos ⟨h1, h2⟩]
      have E := Lib.hid e
      clear e
      have t1 : decide ((48 : Int) ≤ (r : Int)) = true := by simp; omega
      have t2 : decide ((r : Int) ≤ 57) = true := by simp; omega
      go_enter Try.func36, Try.ntmps36
      go_wp2_with fail
      go_ret
      exact ⟨ret_int (by rw [E.out]), rfl⟩
    · by_cases h3 : 97 ≤ r
      · by_cases h4 : r ≤ 102
        · have e : Oct.dv r = (r : Int) - 87 := by unfold Oct.dv; rw [if_neg (by omega), if_pos ⟨h3, h4⟩]
          have E := Lib.hid e
          clear e
          have t1 : decide ((48 : Int) ≤ (r : Int)) = true := by simp; omega
          have t2 : decide ((r : Int) ≤ 57) = false := by simp; omega
          have t3 : decide ((97 : Int) ≤ (r : Int)) = true := by simp; omega
          have t4 : decide ((r : Int) ≤ 102) = true := by simp; omega
          go_enter Try.func36, Try.ntmps36
          go_wp2_with fail
          go_ret
          exact ⟨ret_int (by rw [E.out]), rfl⟩
        · have e : Oct.dv r = -1 := by unfold Oct.dv; rw [if_neg (by omega), if_neg (by omega), if_neg (by omega)]
          rw [e]
          clear e
          have t1 : decide ((48 : Int) ≤ (r : Int)) = true := by simp; omega
          have t2 : decide ((r : Int) ≤ 57) = false := by simp; omega
          have t3 : decide ((97 : Int) ≤ (r : Int)) = true := by simp; omega
          have t4 : decide ((r : Int) ≤ 102) = false := by simp; omega
          have t5 : decide ((65 : Int) ≤ (r : Int)) = true := by simp; omega
          have t6 : decide ((r : Int) ≤ 70) = false := by simp; omega
          go_enter Try.func36, Try.ntmps36
          go_wp2_with fail
          go_ret
          exact ⟨rfl, rfl⟩
      · have t1 : decide ((48 : Int) ≤ (r : Int)) = true := by simp; omega
        have t2 : decide ((r : Int) ≤ 57) = false := by simp; omega
        have t3 : decide ((97 : Int) ≤ (r : Int)) = false := by simp; omega
        by_cases h5 : 65 ≤ r
        · by_cases h6 : r ≤ 70
          · have e : Oct.dv r = (r : Int) - 55 := by unfold Oct.dv; rw [if_neg (by omega), if_neg (by omega), if_pos ⟨h5, h6⟩]
            have E := Lib.hid e
            clear e
            have t5 : decide ((65 : Int) ≤ (r : Int)) = true := by simp; omega
            have t6 : decide ((r : Int) ≤ 70) = true := by simp; omega
            go_enter Try.func36, Try.ntmps36
            go_wp2_with fail
            go_ret
            exact ⟨ret_int (by rw [E.out]), rfl⟩
          · have e : Oct.dv r = -1 := by unfold Oct.dv; rw [if_neg (by omega), if_neg (by omega), if_neg (by omega)]
            rw [e]
            clear e
            have t5 : decide ((65 : Int) ≤ (r : Int)) = true := by simp; omega
            have t6 : decide ((r : Int) ≤ 70) = false := by simp; omega
            go_enter Try.func36, Try.ntmps36
            go_wp2_with fail
            go_ret
            exact ⟨rfl, rfl⟩
        · have e : Oct.dv r = -1 := by unfold Oct.dv; rw [if_neg (by omega), if_neg (by omega), if_neg (by omega)]
          rw [e]
          clear e
          have t5 : decide ((65 : Int) ≤ (r : Int)) = false := by simp; omega
          go_enter Try.func36, Try.ntmps36
          go_wp2_with fail
          go_ret
          exact ⟨rfl, rfl⟩
  · have e : Oct.dv r = -1 := by unfold Oct.dv; rw [if_neg (by omega), if_neg (by omega), if_neg (by omega)]
    rw [e]
    clear e
    have t1 : decide ((48 : Int) ≤ (r : Int)) = false := by simp; omega
    have t3 : decide ((97 : Int) ≤ (r : Int)) = false := by simp; omega
    have t5 : decide ((65 : Int) ≤ (r : Int)) = false := by simp; omega
    go_enter Try.func36, Try.ntmps36
    go_wp2_with fail
    go_ret
    exact ⟨rfl, rfl⟩

theorem str_index (s : ByteArray) (k : Nat) (h : k < s.size) (u : World) : (Instr.index 9 (.string s) (.int .i64 (k : Int))).run Try.prog u = .ok (.int .u8 ((s.data.toList.getD k 0).toNat : Int)) u := by
  rw [run_index_string u 9 s .i64 (k : Int) Try.underlying9, dif_pos ⟨by omega, by omega⟩]
  congr 2
  have e : s.data.toList.getD k 0 = s[k]'h := by
    rw [List.getD, List.getElem?_eq_getElem (by simpa using h)]; rfl
  rw [e]
  simp only [Int.toNat_natCast]

set_option maxHeartbeats 4000000 in
theorem ref01_Parse (s : ByteArray) (w : World) (hs : s.size ≤ 1000000) :
    Calls Try.prog 12 #[.string s] w (BRes 5 w (Oct.prB s.data.toList) (Oct.prE s.data.toList)) := by
  obtain ⟨ti, hti, hz0, hz1, hz2⟩ := info_parts o_u8
  obtain ⟨l, hl⟩ : ∃ l, l = s.data.toList := ⟨_, rfl⟩
  have hls : l.length = s.size := by rw [hl]; exact Array.length_toList
  have hidx : ∀ k, k < s.size → ∀ u : World, (Instr.index 9 (.string s) (.int .i64 (k : Int))).run Try.prog u = .ok (.int .u8 ((l.getD k 0).toNat : Int)) u := fun k hk u => by rw [hl]; exact str_index s k hk u
  rw [← hl]
  have HL := Lib.hid hls
  have HI := Lib.hid hidx
  clear hl hls hidx
  go_enter Try.func12, Try.ntmps12
  go_wp2_with fail
  go_loopg [5] s.size (fun g i wr => ∃ k : Nat, k + g = s.size ∧ i = .int .i64 k ∧ Hid (∀ j, j < k → 0 ≤ Oct.dv (l.getD j 0).toNat) ∧ w = wr)
  case atStart => exact ⟨0, by omega, rfl, Lib.hid (fun j hj => absurd hj (Nat.not_lt_zero j)), rfl⟩
  case round =>
    obtain ⟨k, hk, rfl, hall, rfl⟩ := hrel
    cases gk with
    | succ g =>
      have hks : k < s.size := by omega
      have hx := HI.out k hks
      have hx256 := (l.getD k 0).toNat_lt
      have hlt : (k : Int) < (s.size : Int) := by omega
      by_cases hd0 : 0 ≤ Oct.dv (l.getD k 0).toNat
      · have hall2 : Hid (∀ j, j < k + 1 → 0 ≤ Oct.dv (l.getD j 0).toNat) := fun j hj => by
          rcases Nat.lt_or_ge j k with h | h
          · exact hall.out j h
          · obtain rfl : j = k := by omega
            exact hd0
        generalize (l.getD k 0).toNat = x at *
        have t1 : decide (Oct.dv x < 0) = false := by simp; omega
        clear hd0
        go_wp2_with (go_at_call 36; refine (ref01_digit x _ hx256).mono ?_; rintro e w1 ⟨rfl, rfl⟩)
        go_roundg g
        case measure => omega
        case rel => exact ⟨k + 1, by omega, by go_num, hall2, rfl⟩
      · have HBAD := Lib.hid (prOk_bad l k (by rw [HL.out]; exact hks) hd0)
        generalize (l.getD k 0).toNat = x at *
        have t1 : decide (Oct.dv x < 0) = true := by simp; omega
        clear hd0
        go_wp2_with (go_at_call 36; refine (ref01_digit x _ hx256).mono ?_; rintro e w1 ⟨rfl, rfl⟩)
        go_ret2
        rw [HBAD.out.1, HBAD.out.2]
        exact BRes.nil _ (Below.refl _ _)
    | zero =>
      have hks : k = s.size := by omega
      subst hks
      by_cases hev : s.size % 2 = 0
      · have hne : ((s.size : Int) % 2 != 0) = false := by rw [bne_eq_false_iff_eq]; omega
        have hg := Lib.hid (prOk_good l (by rw [HL.out]; exact hev) (fun j hj => hall.out j (by rw [HL.out] at hj; exact hj)))
        have HEV := Lib.hid hev
        have hpl : Hid ((Oct.prs l).length = s.size / 2) := by show _ = _; rw [Oct.prs_length, HL.out]
        clear hev
        go_wp2_with fail
        go_loopg [4, 6] (s.size / 2) (fun g v i wr => ∃ (j : Nat) (A2 : Option Addr) (c2 : Nat), j + g = s.size / 2 ∧ i = .int .i64 (2 * (j : Int)) ∧ v = .slice A2 j c2 ∧ Own wr w.heap.size 5 1 A2 j c2 (bcells ((Oct.prs l).take j)) ∧ Below w.heap.size w wr)
        case atStart => exact ⟨0, none, 0, by omega, rfl, rfl, Own.none_ _ _ _ _ _, Below.refl _ _⟩
        case round =>
          obtain ⟨j, A2, c2, hj, rfl, rfl, hown, hbw⟩ := hrel
          cases gk with
          | zero =>
            have hge : ¬ 2 * (j : Int) + 1 < (s.size : Int) := by omega
            rw [List.take_of_length_le (by rw [hpl.out]; omega)] at hown
            have hjs := Lib.hid (show j = s.size / 2 by omega)
            have hjb : j ≤ 500000 := by omega
            clear hj
            go_wp2_with fail
            go_ret2
            rw [hg.out.1, hg.out.2]
            exact BRes.mk (by rw [hpl.out, ← hjs.out]) hown hbw
          | succ g =>
            have hj2 : 2 * j + 1 < s.size := by omega
            have hlt : 2 * (j : Int) + 1 < (s.size : Int) := by omega
            have hx : ∀ u : World, (Instr.index 9 (.string s) (.int .i64 (2 * (j : Int)))).run Try.prog u = .ok (.int .u8 ((l.getD (2 * j) 0).toNat : Int)) u := fun u => HI.out (2 * j) (by omega) u
            have hy : ∀ u : World, (Instr.index 9 (.string s) (.int .i64 (2 * (j : Int) + 1))).run Try.prog u = .ok (.int .u8 ((l.getD (2 * j + 1) 0).toNat : Int)) u := fun u => HI.out (2 * j + 1) (by omega) u
            have hdx := hall.out (2 * j) (by omega)
            have hdy := hall.out (2 * j + 1) (by omega)
            have hst := take_get (Oct.prs l) j (by rw [hpl.out]; omega)
            rw [Oct.prs_get l j (by rw [HL.out]; omega)] at hst
            have hnx := Oct.dn_lt (l.getD (2 * j) 0)
            have hny := Oct.dn_lt (l.getD (2 * j + 1) 0)
            have ex : Hid (Oct.dv (l.getD (2 * j) 0).toNat = (Oct.dn (l.getD (2 * j) 0) : Int)) := by show _ = _; unfold Oct.dn; omega
            have ey : Hid (Oct.dv (l.getD (2 * j + 1) 0).toNat = (Oct.dn (l.getD (2 * j + 1) 0) : Int)) := by show _ = _; unfold Oct.dn; omega
            have hx256 := (l.getD (2 * j) 0).toNat_lt
            have hy256 := (l.getD (2 * j + 1) 0).toNat_lt
            have HST := Lib.hid hst
            clear hst hdx hdy
            generalize Oct.dn (l.getD (2 * j) 0) = dx at *
            generalize Oct.dn (l.getD (2 * j + 1) 0) = dy at *
            generalize (l.getD (2 * j) 0).toNat = x at *
            generalize (l.getD (2 * j + 1) 0).toNat = y at *
            have q1 : IntKind.i64.wrap (2 * (j : Int) + 1) = 2 * (j : Int) + 1 := IntWalk.i64_in _ (by omega)
            have q2 : IntKind.i64.wrap (16 * (dx : Int)) = 16 * (dx : Int) := IntWalk.i64_in _ (by omega)
            have q3 : IntKind.i64.wrap (16 * (dx : Int) + (dy : Int)) = 16 * (dx : Int) + (dy : Int) := IntWalk.i64_in _ (by omega)
            have q4 : IntKind.u8.wrap (16 * (dx : Int) + (dy : Int)) = 16 * (dx : Int) + (dy : Int) := by rw [IntKind.wrap_u8']; omega
            have hce : #[Value.int .u8 (16 * (dx : Int) + (dy : Int))].toList = bcells [UInt8.ofNat (dx * 16 + dy)] := by
              simp only [bcells, List.map_cons, List.map_nil, B8]
              rw [UInt8.toNat_ofNat_of_lt' (by simp only [UInt8.size]; omega), show (16 * (dx : Int) + (dy : Int)) = ((dx * 16 + dy : Nat) : Int) by omega]
            have HCE := Lib.hid hce
            clear hce
            go_wp2_with fail
            go_region_held3 (fun _ => True) (trivial)
              (first
                | (go_at_call_of 36 (Value.int IntKind.u8 (x : Int)); refine (ref01_digit x _ hx256).mono ?_; rintro e w1 ⟨rfl, rfl⟩; rw [ex.out])
                | (go_at_call 36; refine (ref01_digit y _ hy256).mono ?_; rintro e w1 ⟨rfl, rfl⟩; rw [ey.out])
                | (refine step_append _ rfl (.tmp 29) (.tmp 42) 22 rfl w.heap.size 5 ti _ 1 1 Try.underlying22 hti hz0 hz1 hz2 rfl (by omega) A2 j c2 (bcells ((Oct.prs l).take j)) rfl (hown.alloc _).drew (wr.heap.size + 1) (some ⟨wr.heap.size, 0, none⟩) 1 1 (bcells [UInt8.ofNat (dx * 16 + dy)]) rfl (Row.new wr HCE.out).drew (by simp) (bcells_one _) (by unfold maxLen; omega) (by omega) (by simp; have := hbw.size; omega) ?_; intro A3 c3 w4 hown4 hg4 hat4))
            all_goals
              clear q1 q2 q3 q4 hx hy
              go_wp2_with fail
              go_roundg g
              case measure => omega
              case rel =>
                refine ⟨j + 1, A3, c3, by omega, by go_num, rfl, ?_, (hown.alloc _).drew.grown hg4 (hbw.alloc hbw.size _).drew (by simp; have := hbw.size; omega)⟩
                rw [HST.out, bcells_append]
                exact hown4
      · have hne : ((s.size : Int) % 2 != 0) = true := by rw [bne_iff_ne]; omega
        have e1 : Oct.prB l = [] ∧ Oct.prE l = 4 := by
          have : Oct.prOk l = false := by unfold Oct.prOk; rw [HL.out]; simp [show (s.size % 2 == 0) = false by simpa using hev]
          constructor
          · unfold Oct.prB; rw [this]; rfl
          · unfold Oct.prE; rw [this]; rfl
        have E := Lib.hid e1
        clear e1 hev
        go_wp2_with fail
        go_ret2
        rw [E.out.1, E.out.2]
        exact BRes.nil _ (Below.refl _ _)
end Go.Proofs.Ytpegechahbldlaa
