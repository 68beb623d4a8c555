/-
  The walk of the statement ApduJoins.
-/
import Derived.Test.YtapfiapjefnjjaaApdAN
import Derived.Test.YtapfiapjefnjjaaApdN
import Derived.Test.YtapfiapjefnjjaaApdQ
namespace Go.Proofs.Ytapfiapjefnjjaa
set_option linter.unusedSimpArgs false
open Go.RowKit

/-- The command that Join leaves, or the zero value. -/
def Apd.jnX (l : List Apd.Cmd) : Apd.Cmd := if Apd.jnE l = 0 then Apd.jnC l else ⟨0, 0, 0, 0, [], 0, false⟩
theorem JRes.uni {w w' : World} {l : List Apd.Cmd} {e : Ending} (h : JRes w l e w') :
    ∃ A c, e = .returned (.tuple #[cmdV (Apd.jnX l).cla (Apd.jnX l).ins (Apd.jnX l).p1 (Apd.jnX l).p2 A (Apd.jnX l).d.length c (Apd.jnX l).le (Apd.jnX l).long, .int .i64 (Apd.jnE l)]) ∧ Byt w' w'.heap.size A (Apd.jnX l).d.length c (Apd.jnX l).d ∧ Below w.heap.size w w' := by
  obtain ⟨hb, ⟨h0, rfl⟩ | ⟨h0, A, c, rfl, ho⟩⟩ := h
  · have hx : Apd.jnX l = ⟨0, 0, 0, 0, [], 0, false⟩ := if_neg h0
    rw [hx]
    exact ⟨none, 0, rfl, ⟨rfl, Nat.le_refl _, Row.nil _ _ _⟩, hb⟩
  · have hx : Apd.jnX l = Apd.jnC l := if_pos h0
    rw [hx, h0]
    exact ⟨A, c, rfl, ho.byt (Nat.le_refl _), hb⟩
theorem jnX_len (l : List Apd.Cmd) : (Apd.jnX l).d.length ≤ (Apd.jdat l).length := by
  unfold Apd.jnX
  split
  · unfold Apd.jnC
    split
    · exact Nat.le_refl _
    · exact Nat.zero_le _
  · exact Nat.zero_le _

set_option maxRecDepth 100000 in
set_option maxHeartbeats 16000000 in
theorem law_ApduJoins (A : Option Addr) (n c : Nat) (vs : List CV) (w : World) (h : vs.length = n ∧ Cmds w w.heap.size A vs ∧ n ≤ c ∧ ∀ v ∈ vs, v.d.n ≤ 140737488351232) :
    Calls Try.prog 10 #[.slice A n c] w fun e w' => e = .returned (.bool true) ∧ Below w.heap.size w w' := by
  obtain ⟨hn, hc, -, hre⟩ := h
  have hEnd : ∀ u, Below w.heap.size w u → Calls Try.prog 11 #[] u fun e w' => e = .returned (.bool true) ∧ Below w.heap.size w w' := fun u hu => (law04_example u).mono fun e w' ⟨he, hb⟩ => ⟨he, bgo hu hb⟩
  have HC := Lib.hid hc
  have HN := Lib.hid hn
  have HRE := Lib.hid hre
  clear hc hn hre
  by_cases hb : n ≤ 300
  case neg =>
    have q0 : (300 : Int) < (n : Int) := by omega
    go_enter Try.func10, Try.ntmps10
    go_wp2_with fail
    go_at_call 11
    refine (hEnd _ (Below.refl _ _)).mono ?_
    rintro e w9 ⟨rfl, b9⟩
    go_wp2_with fail
    go_ret
    exact ⟨rfl, b9⟩
  have q0 : ¬ (300 : Int) < (n : Int) := by omega
  go_enter Try.func10, Try.ntmps10
  go_wp2_with fail
  go_loopw [3, 4] (fun av i wr => ∃ (k m : Nat), k ≤ n ∧ i = .int .i64 k ∧ av = .int .i64 m ∧ Hid (m = (Apd.jdat ((vs.take k).map CV.cmd)).length) ∧ m ≤ 70000 ∧ wr = w) (fun _ i _ => n - (intOf i).toNat)
  case atStart => exact ⟨0, 0, by omega, rfl, rfl, rfl, by omega, rfl⟩
  case round =>
    obtain ⟨k, m, hk, rfl, rfl, hm2, hml, rfl⟩ := hrel
    by_cases hlt : k < n
    · have hkv : k < vs.length := by rw [HN.out]; exact hlt
      obtain ⟨b1, o1, rfl, hb1, hr1, hy1⟩ := HC.out.at_ hkv
      have hx : vs[k]? = some vs[k] := List.getElem?_eq_getElem hkv
      have hr := HRE.out _ (List.getElem_mem hkv)
      generalize vs[k] = x at *
      obtain ⟨x0, x1, x2, x3, ⟨xa, xn, xc, xb⟩, x5, x6⟩ := x
      simp only at hr
      obtain ⟨-, -, -, -, a4b, -, -⟩ := cells7o hr1
      have a4 : wr.cell? ⟨b1, o1 + k * 7 + 4, none⟩ = some (.slice xa xn xc) := a4b
      have p0 : (0 : Int) ≤ (k : Int) := by omega
      have p1 : (k : Int) < (n : Int) := by omega
      have hjd : Hid ((Apd.jdat ((vs.take (k + 1)).map CV.cmd)).length = m + xn) := by
        show _ = _
        rw [List.take_succ_eq_append_getElem hkv]
        have e : vs[k]'hkv = ⟨x0, x1, x2, x3, ⟨xa, xn, xc, xb⟩, x5, x6⟩ := by rw [List.getElem?_eq_getElem hkv] at hx; injection hx
        rw [e, hm2.out]
        have := hy1.1
        simp [Apd.jdat, CV.cmd]
        exact this
      have hw : IntKind.i64.wrap ((m : Int) + (xn : Int)) = ((m + xn : Nat) : Int) := by rw [IntWalk.i64_in _ (by omega)]; omega
      clear a4b hr1 hy1 hx
      by_cases hbig : 70000 < m + xn
      · have q1 : (70000 : Int) < ((m + xn : Nat) : Int) := by omega
        go_wp2_with fail
        go_at_call 11
        refine (hEnd _ (Below.refl _ _)).mono ?_
        rintro e w9 ⟨rfl, b9⟩
        go_wp2_with fail
        go_ret
        exact ⟨rfl, b9⟩
      · have q1 : ¬ (70000 : Int) < ((m + xn : Nat) : Int) := by omega
        go_wp2_with fail
        go_roundw
        case rel => exact ⟨k + 1, m + xn, by omega, by go_num, by simp, by show _ = _; rw [hjd.out], by omega, (by first | rfl | trivial)⟩
        case measure => simp [intOf]; omega
    · obtain rfl : k = n := by omega
      have htk : vs.take k = vs := List.take_of_length_le (Nat.le_of_eq HN.out)
      rw [htk] at hm2
      have hjl : (Apd.jdat (vs.map CV.cmd)).length ≤ 70000 := by rw [← hm2.out]; exact hml
      have hJ1 := fun u (hu : Below wr.heap.size wr u) => (apdu_Join A k c vs u ((HC.out.below hu).more hu.size) HN.out (by omega) (by omega)).mono fun e w' hh => hh.uni
      have hJ2 := fun u (hu : Below wr.heap.size wr u) => (ref04_Join A k c vs u ((HC.out.below hu).more hu.size) HN.out (by omega) (by omega)).mono fun e w' hh => hh.uni
      have hXl := jnX_len (vs.map CV.cmd)
      generalize Apd.jnX (vs.map CV.cmd) = X at *
      generalize Apd.jnE (vs.map CV.cmd) = E at *
      obtain ⟨x0, x1, x2, x3, d, x5, x6⟩ := X
      simp only at hJ1 hJ2 hXl
      have hS := fun (A1 A2 : Option Addr) (c1 c2 : Nat) (u : World) x y => ref04_Same x0 x1 x2 x3 A1 d.length c1 d x5 x6 x0 x1 x2 x3 A2 d.length c2 d x5 x6 u x y (by omega) (by omega)
      rw [Apd.smB_refl] at hS
      unfold cmdV at hJ1 hJ2 hS
      have HJ1 := Lib.hid hJ1
      have HJ2 := Lib.hid hJ2
      have HS := Lib.hid hS
      clear hJ1 hJ2 hS htk hm2 hjl
      generalize d.length = dn at *
      go_wp2_with fail
      go_at_call 37
      refine (HJ1.out _ (Below.refl _ _)).mono ?_
      rintro e w2 ⟨A1, c1, rfl, y1, b2⟩
      have W3 := Lib.hid (bal b2 (.cells #[I64 x0, I64 x1, I64 x2, I64 x3, .slice A1 dn c1, I64 x5, .bool x6] 24))
      have K3 := Lib.hid (Blk.new w2 24 #[I64 x0, I64 x1, I64 x2, I64 x3, .slice A1 dn c1, I64 x5, .bool x6])
      have Y3 := Lib.hid (y1.alloc' (.cells #[I64 x0, I64 x1, I64 x2, I64 x3, .slice A1 dn c1, I64 x5, .bool x6] 24))
      clear b2 y1
      go_wp2_with fail
      go_at_call 38
      refine (HJ2.out _ W3.out).mono ?_
      rintro e w4 ⟨A2, c2, rfl, y2, b4⟩
      have W5 := Lib.hid (bal (bgo W3.out b4) (.cells #[I64 x0, I64 x1, I64 x2, I64 x3, .slice A2 dn c2, I64 x5, .bool x6] 24))
      have K1 := (K3.out.after b4).alloc (.cells #[I64 x0, I64 x1, I64 x2, I64 x3, .slice A2 dn c2, I64 x5, .bool x6] 24)
      have K2 := (Blk.new w4 24 #[I64 x0, I64 x1, I64 x2, I64 x3, .slice A2 dn c2, I64 x5, .bool x6])
      have Y1 := Lib.hid ((Y3.out.after b4).alloc' (.cells #[I64 x0, I64 x1, I64 x2, I64 x3, .slice A2 dn c2, I64 x5, .bool x6] 24))
      have Y2 := Lib.hid (y2.alloc' (.cells #[I64 x0, I64 x1, I64 x2, I64 x3, .slice A2 dn c2, I64 x5, .bool x6] 24))
      have i0 := K1.cell 0
      have i1 := K1.cell 1
      have i2 := K1.cell 2
      have i3 := K1.cell 3
      have i4 := K1.cell 4
      have i5 := K1.cell 5
      have i6 := K1.cell 6
      have j0 := K2.cell 0
      have j1 := K2.cell 1
      have j2 := K2.cell 2
      have j3 := K2.cell 3
      have j4 := K2.cell 4
      have j5 := K2.cell 5
      have j6 := K2.cell 6
      clear b4 y2 K3 Y3 K1 K2
      go_wp2_with fail
      go_at_call 25
      refine (HS.out _ _ _ _ _ (by exact Y1.out) (by exact Y2.out)).mono ?_
      rintro e w7 ⟨rfl, b7⟩
      have W7 := bgo W5.out b7
      clear i0 i1 i2 i3 i4 i5 i6 j0 j1 j2 j3 j4 j5 j6 b7
      go_wp2_with fail
      go_at_call 11
      refine (hEnd _ W7).mono ?_
      rintro e w9 ⟨rfl, b9⟩
      go_wp2_with fail
      go_ret
      exact ⟨rfl, b9⟩
end Go.Proofs.Ytapfiapjefnjjaa
