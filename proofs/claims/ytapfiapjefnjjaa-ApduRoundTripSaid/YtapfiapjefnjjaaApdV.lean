/-
  The walk of the statement ApduDecodes.
-/
import Derived.Test.YtapfiapjefnjjaaApdT
import Derived.Test.YtapfiapjefnjjaaApdU
namespace Go.Proofs.Ytapfiapjefnjjaa
set_option linter.unusedSimpArgs false
open Go.RowKit

/-- The command that Decode hands back. -/
def Apd.dcC (b : List UInt8) : Apd.Cmd := if Apd.dcE b = 0 then ⟨Apd.cel b 0, Apd.cel b 1, Apd.cel b 2, Apd.cel b 3, Apd.bdD (b.drop 4), (Apd.bdL (b.drop 4) : Int), Apd.bdG (b.drop 4)⟩ else ⟨0, 0, 0, 0, [], 0, false⟩
theorem DRes.uni {w w' : World} {b : List UInt8} {e : Ending} (h : DRes w b e w') :
    ∃ A c, e = .returned (.tuple #[cmdV (Apd.dcC b).cla (Apd.dcC b).ins (Apd.dcC b).p1 (Apd.dcC b).p2 A (Apd.dcC b).d.length c (Apd.dcC b).le (Apd.dcC b).long, .int .i64 (Apd.dcE b)]) ∧ Byt w' w'.heap.size A (Apd.dcC b).d.length c (Apd.dcC b).d ∧ Below w.heap.size w w' := by
  obtain ⟨hb, h | ⟨h1, A, c, h2, h3⟩⟩ := h
  · have e1 : Apd.dcC b = ⟨0, 0, 0, 0, [], 0, false⟩ := if_neg h.1
    rw [e1]
    exact ⟨none, 0, h.2, Byt.empty, hb⟩
  · have e1 : Apd.dcC b = ⟨Apd.cel b 0, Apd.cel b 1, Apd.cel b 2, Apd.cel b 3, Apd.bdD (b.drop 4), (Apd.bdL (b.drop 4) : Int), Apd.bdG (b.drop 4)⟩ := if_pos h1
    rw [e1, h1]
    exact ⟨A, c, h2, h3.byt (Nat.le_refl _), hb⟩
/-- The response that DecodeResponse hands back: its data and its status word. -/
def Apd.rdD (b : List UInt8) : List UInt8 := if Apd.rdE b = 0 then b.take (b.length - 2) else []
def Apd.rdS (b : List UInt8) : Int := if Apd.rdE b = 0 then Apd.swd b else 0
theorem RRes.uni {w w' : World} {b : List UInt8} {e : Ending} (h : RRes w b e w') :
    ∃ A c, e = .returned (.tuple #[rspV A (Apd.rdD b).length c (Apd.rdS b), .int .i64 (Apd.rdE b)]) ∧ Byt w' w'.heap.size A (Apd.rdD b).length c (Apd.rdD b) ∧ Below w.heap.size w w' := by
  obtain ⟨hb, h | ⟨h1, A, c, h2, h3⟩⟩ := h
  · have e1 : Apd.rdD b = [] := if_neg h.1
    have e2 : Apd.rdS b = 0 := if_neg h.1
    rw [e1, e2]
    exact ⟨none, 0, h.2, Byt.empty, hb⟩
  · have e1 : Apd.rdD b = b.take (b.length - 2) := if_pos h1
    have e2 : Apd.rdS b = Apd.swd b := if_pos h1
    have e3 : (b.take (b.length - 2)).length = b.length - 2 := by rw [List.length_take]; omega
    rw [e1, e2, h1, e3]
    exact ⟨A, c, h2, h3.byt (Nat.le_refl _), hb⟩
theorem Apd.dcC_le (b : List UInt8) : (Apd.dcC b).d.length ≤ b.length := by
  have h1 : ∀ (x : List UInt8) (wd : Nat) (lg : Bool), (Apd.rst x wd lg).2.1.length ≤ x.length := fun x wd lg => by
    unfold Apd.rst
    split
    · simp
    · split
      · simp
      · split
        · simp
        · split
          · simp
          · split
            · simp
            · simp only [List.length_take, List.length_drop]; omega
  have h2 : ∀ x : List UInt8, (Apd.bdD x).length ≤ x.length := fun x => by
    unfold Apd.bdD
    split
    · simp
    · split
      · have := h1 (x.drop 1) 2 true; simp only [List.length_drop] at this; omega
      · exact h1 x 1 false
  unfold Apd.dcC
  split
  · have := h2 (b.drop 4); simp only [List.length_drop] at this; show (Apd.bdD (b.drop 4)).length ≤ _; omega
  · exact Nat.zero_le _
theorem Apd.rdD_le (b : List UInt8) : (Apd.rdD b).length ≤ b.length := by
  unfold Apd.rdD
  split
  · rw [List.length_take]; omega
  · exact Nat.zero_le _
theorem Apd.srB_refl (d : List UInt8) (sw : Int) : Apd.srB d sw d sw = true := by simp [Apd.srB, Oct.same]

set_option maxRecDepth 100000 in
set_option maxHeartbeats 16000000 in
theorem law_ApduDecodes (A : Option Addr) (n c : Nat) (b : List UInt8) (w : World) (h : Byt w w.heap.size A n c b) :
    Calls Try.prog 7 #[.slice A n c] w fun e w' => e = .returned (.bool true) ∧ Below w.heap.size w w' := by
  have hEnd : ∀ u, Below w.heap.size w u → Calls Try.prog 11 #[] u fun e w' => e = .returned (.bool true) ∧ Below w.heap.size w w' := fun u hu => (law04_example u).mono fun e w' ⟨he, hb⟩ => ⟨he, bgo hu hb⟩
  by_cases hn : n ≤ 70000
  case neg =>
    have q0 : (70000 : Int) < (n : Int) := by omega
    go_enter Try.func7, Try.ntmps7
    go_wp2_with fail
    go_at_call 11
    refine (hEnd _ (Below.refl _ _)).mono ?_
    rintro e w9 ⟨rfl, b9⟩
    go_wp2_with fail
    go_ret
    exact ⟨rfl, b9⟩
  have q0 : ¬ (70000 : Int) < (n : Int) := by omega
  have hl := h.1
  have hD1 := fun u hu => (apdu_Decode A n c b u hu (by omega)).mono fun e w' hr => hr.uni
  have hD2 := fun u hu => (ref04_Decode A n c b u hu (by omega)).mono fun e w' hr => hr.uni
  have hR1 := fun u hu => (apdu_DecodeResponse A n c b u hu (by omega)).mono fun e w' hr => hr.uni
  have hR2 := fun u hu => (ref04_DecodeResponse A n c b u hu (by omega)).mono fun e w' hr => hr.uni
  have hl1 := Apd.dcC_le b
  have hl2 := Apd.rdD_le b
  generalize Apd.dcC b = C at *
  obtain ⟨a0, a1, a2, a3, D, le, lg⟩ := C
  simp only at hD1 hD2 hl1
  generalize Apd.dcE b = er at *
  generalize Apd.rdD b = R at *
  generalize Apd.rdS b = sw at *
  generalize Apd.rdE b = er2 at *
  have hS1 := fun (A1 A2 : Option Addr) (c1 c2 : Nat) (u : World) x y => ref04_Same a0 a1 a2 a3 A1 D.length c1 D le lg a0 a1 a2 a3 A2 D.length c2 D le lg u x y (by omega) (by omega)
  have hS2 := fun (A1 A2 : Option Addr) (c1 c2 : Nat) (u : World) x y => ref04_SameResponse A1 R.length c1 R sw A2 R.length c2 R sw u x y (by omega) (by omega)
  rw [Apd.smB_refl] at hS1
  rw [Apd.srB_refl] at hS2
  unfold cmdV at hD1 hD2 hS1
  unfold rspV at hR1 hR2 hS2
  have HD1 := Lib.hid hD1
  have HD2 := Lib.hid hD2
  have HR1 := Lib.hid hR1
  have HR2 := Lib.hid hR2
  have HS1 := Lib.hid hS1
  have HS2 := Lib.hid hS2
  clear hD1 hD2 hR1 hR2 hS1 hS2 hl
  generalize D.length = nd at *
  generalize R.length = nr at *
  go_enter Try.func7, Try.ntmps7
  go_wp2_with fail
  go_at_call 23
  refine (HD1.out _ h).mono ?_
  rintro e w1 ⟨A1, c1, rfl, y1, b1⟩
  go_wp2_with fail
  go_at_call 26
  have K3 := Blk.new w1 24 #[I64 a0, I64 a1, I64 a2, I64 a3, .slice A1 nd c1, I64 le, .bool lg]
  have b1 := bal b1 (.cells #[I64 a0, I64 a1, I64 a2, I64 a3, .slice A1 nd c1, I64 le, .bool lg] 24)
  have y1 := y1.alloc' (.cells #[I64 a0, I64 a1, I64 a2, I64 a3, .slice A1 nd c1, I64 le, .bool lg] 24)
  refine (HD2.out _ (by exact h.after b1)).mono ?_
  rintro e w2 ⟨A2, c2, rfl, y2, b2⟩
  have K3 := K3.after b2
  have y1 := y1.after b2
  have b2 := bgo b1 b2
  clear b1
  go_wp2_with fail
  go_at_call 27
  have K5 := Blk.new w2 24 #[I64 a0, I64 a1, I64 a2, I64 a3, .slice A2 nd c2, I64 le, .bool lg]
  have K3 := K3.alloc (.cells #[I64 a0, I64 a1, I64 a2, I64 a3, .slice A2 nd c2, I64 le, .bool lg] 24)
  have y1 := y1.alloc' (.cells #[I64 a0, I64 a1, I64 a2, I64 a3, .slice A2 nd c2, I64 le, .bool lg] 24)
  have y2 := y2.alloc' (.cells #[I64 a0, I64 a1, I64 a2, I64 a3, .slice A2 nd c2, I64 le, .bool lg] 24)
  have b2 := bal b2 (.cells #[I64 a0, I64 a1, I64 a2, I64 a3, .slice A2 nd c2, I64 le, .bool lg] 24)
  refine (HR1.out _ (by exact h.after b2)).mono ?_
  rintro e w3 ⟨A3, c3, rfl, y3, b3⟩
  have K3 := K3.after b3
  have K5 := K5.after b3
  have y1 := y1.after b3
  have y2 := y2.after b3
  have b3 := bgo b2 b3
  clear b2
  go_wp2_with fail
  go_at_call 28
  have K7 := Blk.new w3 45 #[.slice A3 nr c3, I64 sw]
  have K3 := K3.alloc (.cells #[.slice A3 nr c3, I64 sw] 45)
  have K5 := K5.alloc (.cells #[.slice A3 nr c3, I64 sw] 45)
  have y1 := y1.alloc' (.cells #[.slice A3 nr c3, I64 sw] 45)
  have y2 := y2.alloc' (.cells #[.slice A3 nr c3, I64 sw] 45)
  have y3 := y3.alloc' (.cells #[.slice A3 nr c3, I64 sw] 45)
  have b3 := bal b3 (.cells #[.slice A3 nr c3, I64 sw] 45)
  refine (HR2.out _ (by exact h.after b3)).mono ?_
  rintro e w4 ⟨A4, c4, rfl, y4, b4⟩
  have K9 := Blk.new w4 45 #[.slice A4 nr c4, I64 sw]
  have K3 := (K3.after b4).alloc (.cells #[.slice A4 nr c4, I64 sw] 45)
  have K5 := (K5.after b4).alloc (.cells #[.slice A4 nr c4, I64 sw] 45)
  have K7 := (K7.after b4).alloc (.cells #[.slice A4 nr c4, I64 sw] 45)
  have y1 := (y1.after b4).alloc' (.cells #[.slice A4 nr c4, I64 sw] 45)
  have y2 := (y2.after b4).alloc' (.cells #[.slice A4 nr c4, I64 sw] 45)
  have y3 := (y3.after b4).alloc' (.cells #[.slice A4 nr c4, I64 sw] 45)
  have y4 := y4.alloc' (.cells #[.slice A4 nr c4, I64 sw] 45)
  have b4 := bal (bgo b3 b4) (.cells #[.slice A4 nr c4, I64 sw] 45)
  have H7 := Lib.hid K7
  have H9 := Lib.hid K9
  have i0 := K3.cell 0
  have i1 := K3.cell 1
  have i2 := K3.cell 2
  have i3 := K3.cell 3
  have i4 := K3.cell 4
  have i5 := K3.cell 5
  have i6 := K3.cell 6
  have j0 := K5.cell 0
  have j1 := K5.cell 1
  have j2 := K5.cell 2
  have j3 := K5.cell 3
  have j4 := K5.cell 4
  have j5 := K5.cell 5
  have j6 := K5.cell 6
  clear K3 K5 K7 K9 b3
  go_wp2_with fail
  go_at_call 25
  refine (HS1.out _ _ _ _ _ (by exact y1) (by exact y2)).mono ?_
  rintro e w5 ⟨rfl, b5⟩
  have K7 := H7.out.after b5
  have K9 := H9.out.after b5
  have y3 := y3.after b5
  have y4 := y4.after b5
  have b5 := bgo b4 b5
  have k0 := K7.cell 0
  have k1 := K7.cell 1
  have l0 := K9.cell 0
  have l1 := K9.cell 1
  clear i0 i1 i2 i3 i4 i5 i6 j0 j1 j2 j3 j4 j5 j6 H7 H9 K7 K9 b4 y1 y2
  go_wp2_with fail
  go_at_call 29
  refine (HS2.out _ _ _ _ _ y3 y4).mono ?_
  rintro e w6 ⟨rfl, b6⟩
  have b6 := bgo b5 b6
  clear k0 k1 l0 l1 y3 y4 b5
  go_wp2_with fail
  go_at_call 11
  refine (hEnd _ b6).mono ?_
  rintro e w9 ⟨rfl, b9⟩
  go_wp2_with fail
  go_ret
  exact ⟨rfl, b9⟩
end Go.Proofs.Ytapfiapjefnjjaa
