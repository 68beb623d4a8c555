/-
  The texts that the claims of this seat lean on, part 2.
-/
import Derived.Test.YtpacdjkikbdkeaaZ0
import Derived.Lib.BytesEntry
import Derived.Lib.Bytealg
import Derived.WalkKit
import Derived.Laws.Cover3
import Derived.Laws.ByValue
import Derived.Lib.AppendZerosOnto
import Derived.Test.YtpacdjkikbdkeaaRows
import Derived.Deep.Matrix

section
namespace Go.Proofs.Ytpacdjkikbdkeaa
set_option maxRecDepth 100000
set_option linter.unusedSimpArgs false
set_option linter.unusedVariables false
open Go.RowKit

theorem blk_of_two {w w1 : World} {X Y : Array Value} {t s : TypeId} (h : Below ((w.alloc (.cells X t)).alloc (.cells Y s)).heap.size ((w.alloc (.cells X t)).alloc (.cells Y s)) w1) :
    Blk w1 w.heap.size t X ∧ Blk w1 (w.heap.size + 1) s Y ∧ Below w.heap.size w w1 :=
  ⟨((Blk.new w t X).alloc _).below h (by simp; omega), (Blk.new' (g := w.heap.size + 1) (w.alloc (.cells X t)) (by simp) rfl).below h (by simp),
    (((Below.refl _ _).alloc (Nat.le_refl _) _).alloc (by simp) _).trans (h.mono (by simp; omega))⟩

theorem cls_bits : ∀ x : Fin 255, bits .and .i64 (x.val : Int) 3 = (x.val : Int) % 4 ∧ (bits .and .i64 (x.val : Int) 4 != 0) = ((x.val : Int) / 4 % 2 == 1) ∧ (bits .and .i64 (x.val : Int) 16 != 0) = ((x.val : Int) / 16 % 2 == 1) ∧ (bits .and .i64 (x.val : Int) 128 != 0) = ((x.val : Int) / 128 == 1) := by decide +kernel
theorem cls_back : ∀ x : Fin 255, (Apd.cby ((x.val : Int) % 4) ((x.val : Int) / 4 % 2 == 1) ((x.val : Int) / 16 % 2 == 1) ((x.val : Int) / 128 == 1) != (x.val : Int)) = !Apd.cok (x.val : Int) := by decide +kernel



set_option maxRecDepth 100000 in
set_option maxHeartbeats 2000000 in
theorem apdu_Class (x : Int) (w : World) :
    Calls Try.prog 56 #[.int .i64 x] w fun e w' => e = .returned (.tuple #[Apd.clsV x, .bool (Apd.cok x)]) ∧ Below w.heap.size w w' := by
  have HB := Lib.hid (fun o => (Below.refl w.heap.size w).alloc (Nat.le_refl _) o)
  by_cases hr : 0 ≤ x ∧ x ≤ 254
  case neg =>
    have e1 : Apd.cok x = false := by unfold Apd.cok; exact decide_eq_false (by omega)
    have e2 : Apd.clsV x = infoV 0 false false false := by unfold Apd.clsV; rw [e1]; rfl
    rw [e1, e2]
    clear e1 e2
    rcases (show x < 0 ∨ (0 ≤ x ∧ 254 < x) by omega) with h0 | ⟨h0, h1⟩
    all_goals
      clear hr
      go_enter Try.func56, Try.ntmps56
      go_wp2_with fail
      refine bodyPost_ret (results_row_tmp rfl _ _ w.heap.size 69 _ (0, 0) _ rfl (Blk.new' _ (by simp) rfl) Try.underlying69 rfl (by kernel_rfl)) rfl ⟨rfl, HB.out _⟩
  obtain ⟨h0, h1⟩ := hr
  obtain ⟨k, rfl⟩ := Int.eq_ofNat_of_zero_le h0
  have hk : k < 255 := by omega
  obtain ⟨f1, f2, f3, f4⟩ := cls_bits ⟨k, hk⟩
  have f5 := cls_back ⟨k, hk⟩
  simp only at f1 f2 f3 f4 f5
  cases hc : Apd.cok (k : Int) with
  | false =>
    have e2 : Apd.clsV (k : Int) = infoV 0 false false false := by unfold Apd.clsV; rw [hc]; rfl
    rw [e2]
    rw [hc] at f5
    clear e2 hc
    have hB := Lib.hid (fun u => apdu_Byte ((k : Int) % 4) ((k : Int) / 4 % 2 == 1) ((k : Int) / 16 % 2 == 1) ((k : Int) / 128 == 1) u)
    unfold infoV at hB
    generalize Apd.cby ((k : Int) % 4) ((k : Int) / 4 % 2 == 1) ((k : Int) / 16 % 2 == 1) ((k : Int) / 128 == 1) = y at *
    go_enter Try.func56, Try.ntmps56
    go_wp2_with fail
    refine (hB.out _).mono ?_
    rintro e w1 ⟨rfl, hb1⟩
    obtain ⟨B1, B2, hbw⟩ := blk_of_two hb1
    have hF := Lib.hid B1
    have hbW := Lib.hid hbw
    clear B1 B2 hbw hb1
    have q0 := hF.out.cell 0
    have q1 := hF.out.cell 1
    have q2 := hF.out.cell 2
    have q3 := hF.out.cell 3
    have r0 := hF.out.frozen 0
    have r1 := hF.out.frozen 1
    have r2 := hF.out.frozen 2
    have r3 := hF.out.frozen 3
    go_wp2_with fail
    have hb4 := (((hbW.out.setCell (p := ⟨w.heap.size, 0, none⟩) (Nat.le_refl _) (.int .i64 0)).setCell (p := ⟨w.heap.size, 1, none⟩) (Nat.le_refl _) (.bool false)).setCell (p := ⟨w.heap.size, 2, none⟩) (Nat.le_refl _) (.bool false)).setCell (p := ⟨w.heap.size, 3, none⟩) (Nat.le_refl _) (.bool false)
    refine bodyPost_ret (results_row_tmp rfl _ _ w.heap.size 69 #[(.int .i64 0), (.bool false), (.bool false), (.bool false)] (0, 0) _ rfl ((((hF.out.set 0 (.int .i64 0)).set 1 (.bool false)).set 2 (.bool false)).set 3 (.bool false)) Try.underlying69 rfl (by kernel_rfl)) rfl ⟨rfl, hb4⟩
  | true =>
    have e2 : Apd.clsV (k : Int) = infoV ((k : Int) % 4) ((k : Int) / 4 % 2 == 1) ((k : Int) / 16 % 2 == 1) ((k : Int) / 128 == 1) := by unfold Apd.clsV; rw [hc]; rfl
    rw [e2]
    rw [hc] at f5
    clear e2 hc
    have hB := Lib.hid (fun u => apdu_Byte ((k : Int) % 4) ((k : Int) / 4 % 2 == 1) ((k : Int) / 16 % 2 == 1) ((k : Int) / 128 == 1) u)
    unfold infoV at hB
    generalize Apd.cby ((k : Int) % 4) ((k : Int) / 4 % 2 == 1) ((k : Int) / 16 % 2 == 1) ((k : Int) / 128 == 1) = y at *
    go_enter Try.func56, Try.ntmps56
    go_wp2_with fail
    refine (hB.out _).mono ?_
    rintro e w1 ⟨rfl, hb1⟩
    obtain ⟨B1, B2, hbw⟩ := blk_of_two hb1
    have hF := Lib.hid B1
    have s0 := B2.cell 0
    have s1 := B2.cell 1
    have s2 := B2.cell 2
    have s3 := B2.cell 3
    have hbW := Lib.hid hbw
    clear B1 B2 hbw hb1
    have q0 := hF.out.cell 0
    have q1 := hF.out.cell 1
    have q2 := hF.out.cell 2
    have q3 := hF.out.cell 3
    have r0 := hF.out.frozen 0
    have r1 := hF.out.frozen 1
    have r2 := hF.out.frozen 2
    have r3 := hF.out.frozen 3
    go_wp2_with fail
    have hb4 := (((hbW.out.setCell (p := ⟨w.heap.size, 0, none⟩) (Nat.le_refl _) (.int .i64 ((k : Int) % 4))).setCell (p := ⟨w.heap.size, 1, none⟩) (Nat.le_refl _) (.bool ((k : Int) / 4 % 2 == 1))).setCell (p := ⟨w.heap.size, 2, none⟩) (Nat.le_refl _) (.bool ((k : Int) / 16 % 2 == 1))).setCell (p := ⟨w.heap.size, 3, none⟩) (Nat.le_refl _) (.bool ((k : Int) / 128 == 1))
    refine bodyPost_ret (results_row_tmp rfl _ _ w.heap.size 69 #[(.int .i64 ((k : Int) % 4)), (.bool ((k : Int) / 4 % 2 == 1)), (.bool ((k : Int) / 16 % 2 == 1)), (.bool ((k : Int) / 128 == 1))] (0, 0) _ rfl ((((hF.out.set 0 (.int .i64 ((k : Int) % 4))).set 1 (.bool ((k : Int) / 4 % 2 == 1))).set 2 (.bool ((k : Int) / 16 % 2 == 1))).set 3 (.bool ((k : Int) / 128 == 1))) Try.underlying69 rfl (by kernel_rfl)) rfl ⟨rfl, hb4⟩

theorem cok_no (x : Int) (h : Apd.cok x = false) : x < 0 ∨ (0 ≤ x ∧ 254 < x) ∨ (0 ≤ x ∧ x ≤ 254 ∧ x / 64 % 2 = 1) ∨ (0 ≤ x ∧ x ≤ 254 ∧ x / 64 % 2 ≠ 1 ∧ x / 32 % 2 = 1) ∨ (0 ≤ x ∧ x ≤ 254 ∧ x / 64 % 2 ≠ 1 ∧ x / 32 % 2 ≠ 1 ∧ x / 8 % 2 = 1) := by
  have := of_decide_eq_false h
  omega

set_option maxRecDepth 100000 in
set_option maxHeartbeats 2000000 in
theorem ref04_Class (x : Int) (w : World) :
    Calls Try.prog 35 #[.int .i64 x] w fun e w' => e = .returned (.tuple #[Apd.clsV x, .bool (Apd.cok x)]) ∧ Below w.heap.size w w' := by
  have HB := Lib.hid (fun o => (Below.refl w.heap.size w).alloc (Nat.le_refl _) o)
  have hq : ∀ (d : Int), 0 ≤ x → x.tdiv d = x / d := fun d h => Int.tdiv_eq_ediv_of_nonneg h
  have hm : ∀ (y : Int), 0 ≤ y → y.tmod 2 = y % 2 := fun y h => Int.tmod_eq_emod_of_nonneg h
  have hm4 : 0 ≤ x → x.tmod 4 = x % 4 := fun h => Int.tmod_eq_emod_of_nonneg h
  cases hc : Apd.cok x with
  | false =>
    have e2 : Apd.clsV x = infoV 0 false false false := by unfold Apd.clsV; rw [hc]; rfl
    rw [e2]
    clear e2
    rcases cok_no x hc with h0 | ⟨h0, h1⟩ | ⟨h0, h1, h2⟩ | ⟨h0, h1, h2, h3⟩ | ⟨h0, h1, h2, h3, h4⟩
    all_goals
      clear hc
      try (have g1 := hq 64 h0; have g2 := hq 32 h0; have g3 := hq 8 h0; have g4 := hm (x / 64) (by omega); have g5 := hm (x / 32) (by omega); have g6 := hm (x / 8) (by omega))
      try replace h2 := beq_eq_false_iff_ne.2 h2
      try replace h3 := beq_eq_false_iff_ne.2 h3
      clear hq hm hm4
      go_enter Try.func35, Try.ntmps35
      go_wp2_with fail
      refine bodyPost_ret (results_row_tmp rfl _ _ w.heap.size 69 _ (0, 0) _ rfl (Blk.new' _ (by simp) rfl) Try.underlying69 rfl (by kernel_rfl)) rfl ⟨rfl, HB.out _⟩
  | true =>
    have e2 : Apd.clsV x = infoV (x % 4) (x / 4 % 2 == 1) (x / 16 % 2 == 1) (x / 128 == 1) := by unfold Apd.clsV; rw [hc]; rfl
    rw [e2]
    clear e2
    obtain ⟨h0, h1, h2, h3, h4⟩ := of_decide_eq_true hc
    have g1 := hq 64 h0
    have g2 := hq 32 h0
    have g3 := hq 8 h0
    have g7 := hq 4 h0
    have g8 := hq 16 h0
    have g9 := hq 128 h0
    have g4 := hm (x / 64) (by omega)
    have g5 := hm (x / 32) (by omega)
    have g6 := hm (x / 8) (by omega)
    have ga := hm (x / 4) (by omega)
    have gb := hm (x / 16) (by omega)
    have gc := hm4 h0
    replace h2 := beq_eq_false_iff_ne.2 h2
    replace h3 := beq_eq_false_iff_ne.2 h3
    replace h4 := beq_eq_false_iff_ne.2 h4
    clear hq hm hm4 hc
    go_enter Try.func35, Try.ntmps35
    go_wp2_with fail
    refine bodyPost_ret (results_row_tmp rfl _ _ w.heap.size 69 _ (0, 0) _ rfl (Blk.new' _ (by simp) rfl) Try.underlying69 rfl (by kernel_rfl)) rfl ⟨rfl, HB.out _⟩
end Go.Proofs.Ytpacdjkikbdkeaa
end

section
namespace Go.Proofs.Ytpacdjkikbdkeaa
set_option maxRecDepth 100000
set_option linter.unusedSimpArgs false
set_option linter.unusedVariables false
open Go.RowKit

/-- The Le that bytes denote. -/
def Apd.exn (b : List UInt8) : Nat := if Oct.num b = 0 ∧ 0 < b.length then 256 ^ b.length else Oct.num b

theorem gt_small (b : List UInt8) (h : b.length ≤ 2) : Oct.gtN b = Oct.num b := by
  have hl : Oct.num b < 256 ^ b.length := Oct.numK_lt b b.length
  have hp : 256 ^ b.length ≤ 256 ^ 2 := Nat.pow_le_pow_right (by omega) h
  have e : Oct.gtE b = 0 := by unfold Oct.gtE; rw [if_neg (by omega), if_neg (by omega)]
  unfold Oct.gtN; rw [if_pos e]

end Go.Proofs.Ytpacdjkikbdkeaa
end

section
namespace Go.Proofs.Ytpacdjkikbdkeaa
set_option maxRecDepth 100000
set_option linter.unusedSimpArgs false
set_option linter.unusedVariables false
open Go.RowKit

theorem o_sl : (Try.prog.info? 23).map (fun i => (i.zero, i.size, i.bytes)) = some (some (.slice none 0 0), 1, 24) := by kernel_rfl

/-- What a call leaves that hands back strings of its own and an error. -/
def SRes (t t' : TypeId) (w : World) (l : List (List UInt8)) (er : Int) (e : Ending) (w' : World) : Prop :=
  ∃ (A : Option Addr) (c : Nat) (vs : List SV), e = .returned (.tuple #[.slice A l.length c, .int .i64 er]) ∧ vs.map SV.bs = l ∧ Own w' w.heap.size t' 1 A l.length c (vs.map SV.val) ∧ (∀ v ∈ vs, Own w' w.heap.size t 1 v.a v.n v.c (bcells v.bs)) ∧ Below w.heap.size w w'

/-- Slices of different types lie in different blocks. -/
theorem Own.ne {w : World} {b b' : Nat} {t t' : TypeId} {s s' : Nat} {A A' : Option Addr} {n n' c c' : Nat} {cs cs' : List Value} (h : Own w b t s A n c cs) (h' : Own w b' t' s' A' n' c' cs') (hne : t ≠ t') : c = 0 ∨ ∀ g, A.map (·.block) = some g → ownAt A' c' ≠ some g := by
  rcases Nat.eq_zero_or_pos c with h0 | h0
  · exact .inl h0
  · refine .inr fun g hg => ?_
    obtain ⟨g1, cur, rfl, _, hh, _⟩ := h.2.2.2 h0
    simp at hg
    subst hg
    unfold ownAt
    split
    · simp
    · obtain ⟨g2, cur2, rfl, _, hh2, _⟩ := h'.2.2.2 (by omega)
      intro e
      simp at e
      subst e
      rw [hh] at hh2
      injection hh2 with hh2
      injection hh2 with _ ht
      exact hne ht
theorem Byt.drop {w : World} {B b o n c : Nat} {bs : List UInt8} (h : Byt w B (some ⟨b, o, none⟩) n c bs) (k : Nat) (hk : k ≤ n) : Byt w B (some ⟨b, o + k, none⟩) (n - k) (c - k) (bs.drop k) :=
  ⟨by rw [List.length_drop, h.1], by have := h.2.1; omega, h.2.2.bdrop k⟩
theorem Byt.take {w : World} {B n c : Nat} {A : Option Addr} {bs : List UInt8} (h : Byt w B A n c bs) (k d : Nat) (hk : k ≤ n) (hd : k ≤ d) : Byt w B A k d (bs.take k) :=
  ⟨by rw [List.length_take, h.1]; omega, hd, h.2.2.btake k⟩
theorem Byt.empty {w : World} {B c : Nat} {A : Option Addr} : Byt w B A 0 c [] := ⟨rfl, Nat.zero_le _, Row.nil _ _ _⟩

end Go.Proofs.Ytpacdjkikbdkeaa
end

section
namespace Go.Proofs.Ytpacdjkikbdkeaa
set_option maxRecDepth 100000
set_option linter.unusedSimpArgs false
set_option linter.unusedVariables false
open Go.RowKit

theorem own_ge {w : World} {base : Nat} {t : TypeId} {s : Nat} {A : Option Addr} {n c : Nat} {cs : List Value} (h : Own w base t s A n c cs) (hn : 0 < n) {g : Nat} (hg : g < base) : ∀ g', A.map (·.block) = some g' → g' ≠ g := by
  intro g' e
  obtain ⟨g2, cur, rfl, hb, _⟩ := h.2.2.2 (by have := h.2.1; omega)
  simp at e; omega

/-- What follows the header, behind the mark of a long command. -/
def Apd.rst (b : List UInt8) (wd : Nat) (long : Bool) : Int × List UInt8 × Nat :=
  if b.length < wd then (5, [], 0)
  else if long = true ∧ b.length = wd then (0, [], Apd.exn b)
  else if Oct.num (b.take wd) = 0 then (4, [], 0)
  else if (b.drop wd).length < Oct.num (b.take wd) then (5, [], 0)
  else if (b.drop wd).length ≠ Oct.num (b.take wd) ∧ (b.drop wd).length ≠ Oct.num (b.take wd) + wd then (4, [], 0)
  else (0, (b.drop wd).take (Oct.num (b.take wd)), Apd.exn ((b.drop wd).drop (Oct.num (b.take wd))))
/-- What follows the header. -/
def Apd.bdE (b : List UInt8) : Int := if b.length ≤ 1 then 0 else if b.getD 0 0 = 0 then (Apd.rst (b.drop 1) 2 true).1 else (Apd.rst b 1 false).1
def Apd.bdD (b : List UInt8) : List UInt8 := if b.length ≤ 1 then [] else if b.getD 0 0 = 0 then (Apd.rst (b.drop 1) 2 true).2.1 else (Apd.rst b 1 false).2.1
def Apd.bdL (b : List UInt8) : Nat := if b.length ≤ 1 then (if b.length = 1 then Apd.exn b else 0) else if b.getD 0 0 = 0 then (Apd.rst (b.drop 1) 2 true).2.2 else (Apd.rst b 1 false).2.2
def Apd.bdG (b : List UInt8) : Bool := if b.length ≤ 1 then false else b.getD 0 0 == 0

def BodyRes (w : World) (g : Nat) (cla ins p1 p2 : Int) (b : List UInt8) (e : Ending) (w' : World) : Prop :=
  e = .returned (.int .i64 (Apd.bdE b)) ∧ Below g w w' ∧ (Apd.bdE b = 0 → ∃ A c, Blk w' g 30 #[I64 cla, I64 ins, I64 p1, I64 p2, .slice A (Apd.bdD b).length c, I64 (Apd.bdL b : Int), .bool (Apd.bdG b)] ∧ Own w' (g + 1) 5 1 A (Apd.bdD b).length c (bcells (Apd.bdD b)))

end Go.Proofs.Ytpacdjkikbdkeaa
end

section
namespace Go.Proofs.Ytpacdjkikbdkeaa
set_option maxRecDepth 100000
set_option linter.unusedSimpArgs false
set_option linter.unusedVariables false
open Go.RowKit

/-- A byte as a number. -/
def Apd.cel (b : List UInt8) (i : Nat) : Int := ((b.getD i 0).toNat : Int)
/-- The error of Decode. -/
def Apd.dcE (b : List UInt8) : Int :=
  if b.length < 4 then 5 else if Apd.bdE (b.drop 4) ≠ 0 then Apd.bdE (b.drop 4)
  else Apd.chk (Apd.cel b 0) (Apd.cel b 1) (Apd.cel b 2) (Apd.cel b 3) (Apd.bdD (b.drop 4)).length (Apd.bdL (b.drop 4) : Int) (Apd.bdG (b.drop 4))
/-- What Decode leaves. -/
def DRes (w : World) (b : List UInt8) (e : Ending) (w' : World) : Prop :=
  Below w.heap.size w w' ∧
  ((Apd.dcE b ≠ 0 ∧ e = .returned (.tuple #[cmdV 0 0 0 0 none 0 0 0 false, .int .i64 (Apd.dcE b)])) ∨
   (Apd.dcE b = 0 ∧ ∃ A c, e = .returned (.tuple #[cmdV (Apd.cel b 0) (Apd.cel b 1) (Apd.cel b 2) (Apd.cel b 3) A (Apd.bdD (b.drop 4)).length c (Apd.bdL (b.drop 4) : Int) (Apd.bdG (b.drop 4)), .int .i64 0]) ∧
     Own w' w.heap.size 5 1 A (Apd.bdD (b.drop 4)).length c (bcells (Apd.bdD (b.drop 4)))))

theorem Own.setRow_ne {w : World} {b g : Nat} {t t' : TypeId} {A : Option Addr} {n c : Nat} {cs : List Value} {old : Array Value} (h : Own w b t 1 A n c cs) (hB : Blk w g t' old) (hne : t ≠ t') (cells : Array Value) : Own (w.setRow g cells) b t 1 A n c cs :=
  ⟨h.1, h.2.1, h.2.2.1, fun hc => by
    obtain ⟨g2, cur, e, hg, hh, r⟩ := h.2.2.2 hc
    refine ⟨g2, cur, e, hg, ?_, r⟩
    have hgg : g2 ≠ g := fun e2 => by
      subst e2
      unfold Blk at hB
      rw [hh] at hB
      injection hB with hB
      injection hB with _ h2 _
      exact hne h2
    exact Blk.setRow_far hh hgg cells⟩

theorem cmd_one (cla ins p1 p2 : Int) (A : Option Addr) (n c : Nat) (le : Int) (long : Bool) : (#[I64 cla, I64 ins, I64 p1, I64 p2, .slice A n c, I64 le, .bool long] : Array Value).all (·.oneCell') = true := by simp [Value.oneCell']

end Go.Proofs.Ytpacdjkikbdkeaa
end

section
namespace Go.Proofs.Ytpacdjkikbdkeaa
set_option maxRecDepth 100000
set_option linter.unusedSimpArgs false
set_option linter.unusedVariables false
open Go.RowKit

/-- A command. -/
structure Apd.Cmd where
  cla : Int
  ins : Int
  p1 : Int
  p2 : Int
  d : List UInt8
  le : Int
  long : Bool
/-- A command as it lies in memory. -/
structure CV where
  cla : Int
  ins : Int
  p1 : Int
  p2 : Int
  d : SV
  le : Int
  long : Bool
def CV.cells (x : CV) : List Value := [I64 x.cla, I64 x.ins, I64 x.p1, I64 x.p2, x.d.val, I64 x.le, .bool x.long]
def CV.cmd (x : CV) : Apd.Cmd := ⟨x.cla, x.ins, x.p1, x.p2, x.d.bs, x.le, x.long⟩
def ccells (l : List CV) : List Value := l.flatMap CV.cells
theorem ccells_append (a b : List CV) : ccells (a ++ b) = ccells a ++ ccells b := by simp [ccells]
theorem ccells_one (x : CV) : ccells [x] = x.cells := by simp [ccells]
theorem length_ccells (l : List CV) : (ccells l).length = 7 * l.length := by
  induction l with
  | nil => rfl
  | cons x l ih =>
    rw [show x :: l = [x] ++ l from rfl, ccells_append, List.length_append, ih, ccells_one, List.length_append]
    show 7 + _ = _
    simp; omega
theorem CV.ones (x : CV) : ∀ u ∈ x.cells, u.oneCell' = true := by
  intro u hu
  simp only [CV.cells, SV.val, List.mem_cons, List.not_mem_nil, or_false] at hu
  rcases hu with rfl | rfl | rfl | rfl | rfl | rfl | rfl <;> simp [Value.oneCell']
/-- A slice of commands. -/
def Cmds (w : World) (B : Nat) (A : Option Addr) (vs : List CV) : Prop := Row w B A (ccells vs) ∧ ∀ v ∈ vs, Byt w B v.d.a v.d.n v.d.c v.d.bs
theorem Cmds.below {w w' : World} {B : Nat} {A : Option Addr} {vs : List CV} (h : Cmds w B A vs) (hb : Below B w w') : Cmds w' B A vs := ⟨h.1.below hb, fun v hv => (h.2 v hv).below hb⟩
theorem Cmds.more {w : World} {B B' : Nat} {A : Option Addr} {vs : List CV} (h : Cmds w B A vs) (hB : B ≤ B') : Cmds w B' A vs := ⟨h.1.more hB, fun v hv => (h.2 v hv).more hB⟩
/-- What Chain leaves. -/
def ChRes (w : World) (l : List Apd.Cmd) (er : Int) (e : Ending) (w' : World) : Prop :=
  ∃ (A : Option Addr) (c : Nat) (vs : List CV), e = .returned (.tuple #[.slice A l.length c, .int .i64 er]) ∧ vs.map CV.cmd = l ∧ Cmds w' w'.heap.size A vs ∧ Below w.heap.size w w'

/-- The error of Chain. -/
def Apd.chE (x : Apd.Cmd) (n : Int) : Int :=
  if Apd.chk x.cla x.ins x.p1 x.p2 x.d.length x.le x.long ≠ 0 then Apd.chk x.cla x.ins x.p1 x.p2 x.d.length x.le x.long
  else if n < 1 ∨ 255 < n then 1 else if ¬ (Apd.cok x.cla = true ∧ x.cla / 16 % 2 ≠ 1) then 4 else 0
def Apd.pcs (x : Apd.Cmd) (m : Nat) : List (List UInt8) := if x.d.length ≤ m then [x.d] else Oct.split x.d m
def Apd.mid (x : Apd.Cmd) (b : List UInt8) : Apd.Cmd := ⟨x.cla + 16, x.ins, x.p1, x.p2, b, 0, false⟩
def Apd.fin (x : Apd.Cmd) (b : List UInt8) : Apd.Cmd := ⟨x.cla, x.ins, x.p1, x.p2, b, x.le, x.long⟩
/-- The commands of a chain with these pieces of data. -/
def Apd.lst (x : Apd.Cmd) : List (List UInt8) → List Apd.Cmd
  | [] => []
  | [b] => [Apd.fin x b]
  | b :: c :: l => Apd.mid x b :: Apd.lst x (c :: l)
def Apd.chL (x : Apd.Cmd) (n : Int) : List Apd.Cmd := if Apd.chE x n = 0 then Apd.lst x (Apd.pcs x n.toNat) else []
theorem Apd.lst_snoc (x : Apd.Cmd) (l : List (List UInt8)) (b : List UInt8) : Apd.lst x (l ++ [b]) = l.map (Apd.mid x) ++ [Apd.fin x b] := by
  induction l with
  | nil => rfl
  | cons a l ih =>
    cases l with
    | nil => rfl
    | cons a2 l2 => rw [List.cons_append, List.cons_append, Apd.lst, ← List.cons_append, ih]; rfl

theorem own_cell_ne {w : World} {b g : Nat} {t t' : TypeId} {A : Option Addr} {n c : Nat} {cs : List Value} {old : Array Value} (h : Own w b t 1 A n c cs) (hB : Blk w g t' old) (hne : t ≠ t') (i : Nat) (v : Value) : Own (w.setCell ⟨g, i, none⟩ v) b t 1 A n c cs :=
  ⟨h.1, h.2.1, h.2.2.1, fun hc => by
    obtain ⟨g2, cur, e, hg, hh, r⟩ := h.2.2.2 hc
    refine ⟨g2, cur, e, hg, ?_, r⟩
    have hgg : g2 ≠ g := fun e2 => by
      subst e2
      unfold Blk at hB
      rw [hh] at hB
      injection hB with hB
      injection hB with _ h2 _
      exact hne h2
    exact Blk.far hh hgg v⟩

end Go.Proofs.Ytpacdjkikbdkeaa
end

section
namespace Go.Proofs.Ytpacdjkikbdkeaa
set_option maxRecDepth 100000
set_option linter.unusedSimpArgs false
set_option linter.unusedVariables false
open Go.RowKit

theorem or_chain : ∀ h : Fin 255, (h.val : Int) / 16 % 2 ≠ 1 → bits .or .i64 (h.val : Int) 16 = (h.val : Int) + 16 := by decide +kernel

theorem c_info : (Try.prog.info? 30).map (fun i => (i.zero, i.size, i.bytes)) = some (some (.agg #[.int .i64 0, .int .i64 0, .int .i64 0, .int .i64 0, .slice none 0 0, .int .i64 0, .bool false]), 7, 72) := by kernel_rfl
/-- An element of a chain ahead of its last. -/
def midV (cla ins p1 p2 : Int) (v : SV) : CV := ⟨cla + 16, ins, p1, p2, v, 0, false⟩

/-- The last of some commands of the call's own, and what stores make of it. -/
theorem own_last {w : World} {base : Nat} {t : TypeId} {A : Option Addr} {q c : Nat} {l0 : List CV} {x : CV} (h : Own w base t 7 A (q + 1) c (ccells (l0 ++ [x]))) (hq : l0.length = q) :
    ∃ g, A = some ⟨g, 0, none⟩ ∧ base ≤ g ∧ g < w.heap.size ∧ (∀ i, w.frozen? ⟨g, i, none⟩ = false) ∧ w.cell? ⟨g, q * 7, none⟩ = some (I64 x.cla) ∧ w.cell? ⟨g, q * 7 + 5, none⟩ = some (I64 x.le) ∧ w.cell? ⟨g, q * 7 + 6, none⟩ = some (.bool x.long) ∧
      ∀ (a b : Int) (lg : Bool), Own (((w.setCell ⟨g, q * 7, none⟩ (I64 a)).setCell ⟨g, q * 7 + 5, none⟩ (I64 b)).setCell ⟨g, q * 7 + 6, none⟩ (.bool lg)) base t 7 A (q + 1) c (ccells (l0 ++ [⟨a, x.ins, x.p1, x.p2, x.d, b, lg⟩])) := by
  have hlen := length_ccells l0
  obtain ⟨hl, hnc, hm, hc⟩ := h
  obtain ⟨g, cur, e, hb, hh, hs, ht⟩ := hc (by omega)
  have hB : Blk w g t cur := hh
  have hcell : ∀ i, i < 7 → w.cell? ⟨g, q * 7 + i, none⟩ = x.cells[i]? := fun i hi => by
    have h1 : (cur.toList.take ((q + 1) * 7))[q * 7 + i]? = (ccells (l0 ++ [x]))[q * 7 + i]? := by rw [ht]
    rw [List.getElem?_take, if_pos (by omega), ccells_append, ccells_one, List.getElem?_append_right (by omega), show q * 7 + i - (ccells l0).length = i by omega] at h1
    rw [hB.cell, ← h1]; simp
  refine ⟨g, e, hb, hB.lt, hB.frozen, hcell 0 (by omega), hcell 5 (by omega), hcell 6 (by omega), fun a b lg => ⟨?_, hnc, hm, fun _ => ⟨g, _, e, hb, ((hB.set _ _).set _ _).set _ _, ?_, ?_⟩⟩⟩
  · rw [length_ccells] at hl ⊢; simpa using hl
  · simpa using hs
  · simp only [Array.toList_setIfInBounds, List.take_set, ht]
    rw [ccells_append, ccells_append, ccells_one, ccells_one, List.set_append_right _ _ (by omega), List.set_append_right _ _ (by omega), List.set_append_right _ _ (by omega)]
    rw [show q * 7 - (ccells l0).length = 0 by omega, show q * 7 + 5 - (ccells l0).length = 5 by omega, show q * 7 + 6 - (ccells l0).length = 6 by omega]
    rfl

end Go.Proofs.Ytpacdjkikbdkeaa
end

section
namespace Go.Proofs.Ytpacdjkikbdkeaa
set_option maxRecDepth 100000
set_option linter.unusedSimpArgs false
set_option linter.unusedVariables false
open Go.RowKit

theorem cmpB_eq : ∀ (a b : List UInt8), Lib.compareBytes a b = Oct.cmp a b
  | [], [] => rfl
  | [], _ :: _ => rfl
  | _ :: _, [] => rfl
  | x :: a, y :: b => by
    simp only [Lib.compareBytes, Oct.cmp, UInt8.lt_iff_toNat_lt]
    rw [cmpB_eq a b]
theorem same_beq (a b : List UInt8) : (a == b) = Oct.same a b := by
  rw [Bool.eq_iff_iff, Oct.same_iff, beq_iff_eq]
theorem byt_bytesOf {P : Program} {w : World} {B : Nat} {A : Option Addr} {n c : Nat} {bs : List UInt8} (h : Byt w B A n c bs) : (Extern.Bytes.bytesOf (.slice A n c)).run P w = .ok ⟨bs.toArray⟩ w := by
  cases A with
  | none =>
    have hb : bs = [] := by
      rcases Nat.eq_zero_or_pos n with h0 | h0
      · exact List.eq_nil_of_length_eq_zero (by rw [h.1]; exact h0)
      · obtain ⟨b, o, e, _⟩ := h.at_ h0; cases e
    subst hb
    rfl
  | some a =>
    have hl := Lib.run_loadBytesX (P := P) w (bs.map fun b => (b.toNat : Int)) a .empty (fun j x hj => by
      have hjl : j < bs.length := by have := (List.getElem?_eq_some_iff.1 hj).1; simpa using this
      obtain ⟨b, o, e, _, hc⟩ := h.2.2 (by rw [length_bcells]; omega)
      obtain rfl : a = ⟨b, o, none⟩ := by simpa using e
      rw [add_eq, hc j (by rw [length_bcells]; exact hjl), bcells_get]
      rw [List.getElem?_map] at hj
      rw [List.getElem?_eq_getElem hjl] at hj ⊢
      simp at hj
      simp [B8, hj])
    rw [List.length_map, h.1] at hl
    show (Extern.Bytes.loadBytes a n .empty).run P w = _
    rw [hl]
    congr 1
    apply ByteArray.ext
    have e1 : Lib.bytesOf (bs.map fun b => (b.toNat : Int)) = bs := by
      unfold Lib.bytesOf
      rw [List.map_map, List.map_congr_left (g := id)]
      · simp
      · intro b _; simp
    rw [e1]
    show (#[] : Array UInt8) ++ bs.toArray = _
    simp
theorem run_cmp {P : Program} {w : World} {B B' : Nat} {A A' : Option Addr} {n n' c c' : Nat} {a b : List UInt8} (h : Byt w B A n c a) (h' : Byt w B' A' n' c' b) :
    (Extern.BytealgCompare.compare #[.slice A n c, .slice A' n' c']).run P w = .ok (.int .i64 (Oct.cmp a b)) w := by
  show Sem.run P (do pure (goInt (Extern.BytealgCompare.cmp (← Extern.Bytes.bytesOf (.slice A n c)) (← Extern.Bytes.bytesOf (.slice A' n' c'))))) w = _
  simp only [Sem.run_bind, byt_bytesOf h, byt_bytesOf h', Result.andThen]
  rw [Lib.cmp_eq, cmpB_eq]
  rfl

def begins (b p : List UInt8) : Bool := decide (p.length ≤ b.length) && Oct.same (b.take p.length) p

end Go.Proofs.Ytpacdjkikbdkeaa
end

section
namespace Go.Proofs.Ytpacdjkikbdkeaa
set_option maxRecDepth 100000
set_option linter.unusedSimpArgs false
set_option linter.unusedVariables false
open Go.RowKit

end Go.Proofs.Ytpacdjkikbdkeaa
end

section
namespace Go.Proofs.Ytpacdjkikbdkeaa
set_option maxRecDepth 100000
set_option linter.unusedSimpArgs false
set_option linter.unusedVariables false
open Go.RowKit

theorem take_get (l : List UInt8) (k : Nat) (h : k < l.length) : l.take (k + 1) = l.take k ++ [l.getD k 0] := by
  rw [List.take_succ_eq_append_getElem h]; simp [List.getD, List.getElem?_eq_getElem h]

end Go.Proofs.Ytpacdjkikbdkeaa
end

section
namespace Go.Proofs.Ytpacdjkikbdkeaa
set_option maxRecDepth 100000
set_option linter.unusedSimpArgs false
set_option linter.unusedVariables false
open Go.RowKit

theorem pad_stop (len m j : Nat) (h1 : 1 ≤ m) (hj : j ≤ Oct.padN len m) : (len + 1 + j) % m = 0 ↔ j = Oct.padN len m := by
  unfold Oct.padN at *
  have hlt := Nat.mod_lt (len + 1) (show 0 < m by omega)
  have hdm := Nat.div_add_mod (len + 1) m
  split at hj
  · rename_i h0
    rw [if_pos h0]
    constructor
    · intro _; omega
    · intro e; rw [e]; exact h0
  · rename_i h0
    rw [if_neg h0]
    have e1 : len + 1 + j = m * ((len + 1) / m) + ((len + 1) % m + j) := by omega
    rw [e1, Nat.mul_add_mod]
    constructor
    · intro e
      rcases Nat.lt_or_ge ((len + 1) % m + j) m with h | h
      · rw [Nat.mod_eq_of_lt h] at e; omega
      · omega
    · intro e
      rw [show (len + 1) % m + j = m by omega, Nat.mod_self]

end Go.Proofs.Ytpacdjkikbdkeaa
end

section
namespace Go.Proofs.Ytpacdjkikbdkeaa
set_option maxRecDepth 100000
set_option linter.unusedSimpArgs false
set_option linter.unusedVariables false
open Go.RowKit

theorem str_index (s : ByteArray) (k : Nat) (h : k < s.size) (u : World) : (Instr.index 9 (.string s) (.int .i64 (k : Int))).run Try.prog u = .ok (.int .u8 ((s.data.toList.getD k 0).toNat : Int)) u := by
  rw [run_index_string u 9 s .i64 (k : Int) Try.underlying9, dif_pos ⟨by omega, by omega⟩]
  congr 2
  have e : s.data.toList.getD k 0 = s[k]'h := by
    rw [List.getD, List.getElem?_eq_getElem (by simpa using h)]; rfl
  rw [e]
  simp only [Int.toNat_natCast]

end Go.Proofs.Ytpacdjkikbdkeaa
end

section
namespace Go.Proofs.Ytpacdjkikbdkeaa
set_option maxRecDepth 100000
set_option linter.unusedSimpArgs false
set_option linter.unusedVariables false
open Go.RowKit

theorem digit_slice (k : Nat) (hk : k < 16) (u : World) : (Instr.slice 9 (.string ⟨#[48, 49, 50, 51, 52, 53, 54, 55, 56, 57, 97, 98, 99, 100, 101, 102]⟩) (some (.int .u8 (k : Int))) (some (.int .u8 ((k : Int) + 1))) none).run Try.prog u = .ok (.string ⟨#[Oct.dg k]⟩) u := by
  match k, hk with
  | 0, _ => exact (by kernel_rfl : (Instr.slice 9 (.string ⟨#[48, 49, 50, 51, 52, 53, 54, 55, 56, 57, 97, 98, 99, 100, 101, 102]⟩) (some (.int .u8 ((0 : Nat) : Int))) (some (.int .u8 (((0 : Nat) : Int) + 1))) none).run Try.prog u = .ok (.string ⟨#[Oct.dg 0]⟩) u)
  | 1, _ => exact (by kernel_rfl : (Instr.slice 9 (.string ⟨#[48, 49, 50, 51, 52, 53, 54, 55, 56, 57, 97, 98, 99, 100, 101, 102]⟩) (some (.int .u8 ((1 : Nat) : Int))) (some (.int .u8 (((1 : Nat) : Int) + 1))) none).run Try.prog u = .ok (.string ⟨#[Oct.dg 1]⟩) u)
  | 2, _ => exact (by kernel_rfl : (Instr.slice 9 (.string ⟨#[48, 49, 50, 51, 52, 53, 54, 55, 56, 57, 97, 98, 99, 100, 101, 102]⟩) (some (.int .u8 ((2 : Nat) : Int))) (some (.int .u8 (((2 : Nat) : Int) + 1))) none).run Try.prog u = .ok (.string ⟨#[Oct.dg 2]⟩) u)
  | 3, _ => exact (by kernel_rfl : (Instr.slice 9 (.string ⟨#[48, 49, 50, 51, 52, 53, 54, 55, 56, 57, 97, 98, 99, 100, 101, 102]⟩) (some (.int .u8 ((3 : Nat) : Int))) (some (.int .u8 (((3 : Nat) : Int) + 1))) none).run Try.prog u = .ok (.string ⟨#[Oct.dg 3]⟩) u)
  | 4, _ => exact (by kernel_rfl : (Instr.slice 9 (.string ⟨#[48, 49, 50, 51, 52, 53, 54, 55, 56, 57, 97, 98, 99, 100, 101, 102]⟩) (some (.int .u8 ((4 : Nat) : Int))) (some (.int .u8 (((4 : Nat) : Int) + 1))) none).run Try.prog u = .ok (.string ⟨#[Oct.dg 4]⟩) u)
  | 5, _ => exact (by kernel_rfl : (Instr.slice 9 (.string ⟨#[48, 49, 50, 51, 52, 53, 54, 55, 56, 57, 97, 98, 99, 100, 101, 102]⟩) (some (.int .u8 ((5 : Nat) : Int))) (some (.int .u8 (((5 : Nat) : Int) + 1))) none).run Try.prog u = .ok (.string ⟨#[Oct.dg 5]⟩) u)
  | 6, _ => exact (by kernel_rfl : (Instr.slice 9 (.string ⟨#[48, 49, 50, 51, 52, 53, 54, 55, 56, 57, 97, 98, 99, 100, 101, 102]⟩) (some (.int .u8 ((6 : Nat) : Int))) (some (.int .u8 (((6 : Nat) : Int) + 1))) none).run Try.prog u = .ok (.string ⟨#[Oct.dg 6]⟩) u)
  | 7, _ => exact (by kernel_rfl : (Instr.slice 9 (.string ⟨#[48, 49, 50, 51, 52, 53, 54, 55, 56, 57, 97, 98, 99, 100, 101, 102]⟩) (some (.int .u8 ((7 : Nat) : Int))) (some (.int .u8 (((7 : Nat) : Int) + 1))) none).run Try.prog u = .ok (.string ⟨#[Oct.dg 7]⟩) u)
  | 8, _ => exact (by kernel_rfl : (Instr.slice 9 (.string ⟨#[48, 49, 50, 51, 52, 53, 54, 55, 56, 57, 97, 98, 99, 100, 101, 102]⟩) (some (.int .u8 ((8 : Nat) : Int))) (some (.int .u8 (((8 : Nat) : Int) + 1))) none).run Try.prog u = .ok (.string ⟨#[Oct.dg 8]⟩) u)
  | 9, _ => exact (by kernel_rfl : (Instr.slice 9 (.string ⟨#[48, 49, 50, 51, 52, 53, 54, 55, 56, 57, 97, 98, 99, 100, 101, 102]⟩) (some (.int .u8 ((9 : Nat) : Int))) (some (.int .u8 (((9 : Nat) : Int) + 1))) none).run Try.prog u = .ok (.string ⟨#[Oct.dg 9]⟩) u)
  | 10, _ => exact (by kernel_rfl : (Instr.slice 9 (.string ⟨#[48, 49, 50, 51, 52, 53, 54, 55, 56, 57, 97, 98, 99, 100, 101, 102]⟩) (some (.int .u8 ((10 : Nat) : Int))) (some (.int .u8 (((10 : Nat) : Int) + 1))) none).run Try.prog u = .ok (.string ⟨#[Oct.dg 10]⟩) u)
  | 11, _ => exact (by kernel_rfl : (Instr.slice 9 (.string ⟨#[48, 49, 50, 51, 52, 53, 54, 55, 56, 57, 97, 98, 99, 100, 101, 102]⟩) (some (.int .u8 ((11 : Nat) : Int))) (some (.int .u8 (((11 : Nat) : Int) + 1))) none).run Try.prog u = .ok (.string ⟨#[Oct.dg 11]⟩) u)
  | 12, _ => exact (by kernel_rfl : (Instr.slice 9 (.string ⟨#[48, 49, 50, 51, 52, 53, 54, 55, 56, 57, 97, 98, 99, 100, 101, 102]⟩) (some (.int .u8 ((12 : Nat) : Int))) (some (.int .u8 (((12 : Nat) : Int) + 1))) none).run Try.prog u = .ok (.string ⟨#[Oct.dg 12]⟩) u)
  | 13, _ => exact (by kernel_rfl : (Instr.slice 9 (.string ⟨#[48, 49, 50, 51, 52, 53, 54, 55, 56, 57, 97, 98, 99, 100, 101, 102]⟩) (some (.int .u8 ((13 : Nat) : Int))) (some (.int .u8 (((13 : Nat) : Int) + 1))) none).run Try.prog u = .ok (.string ⟨#[Oct.dg 13]⟩) u)
  | 14, _ => exact (by kernel_rfl : (Instr.slice 9 (.string ⟨#[48, 49, 50, 51, 52, 53, 54, 55, 56, 57, 97, 98, 99, 100, 101, 102]⟩) (some (.int .u8 ((14 : Nat) : Int))) (some (.int .u8 (((14 : Nat) : Int) + 1))) none).run Try.prog u = .ok (.string ⟨#[Oct.dg 14]⟩) u)
  | 15, _ => exact (by kernel_rfl : (Instr.slice 9 (.string ⟨#[48, 49, 50, 51, 52, 53, 54, 55, 56, 57, 97, 98, 99, 100, 101, 102]⟩) (some (.int .u8 ((15 : Nat) : Int))) (some (.int .u8 (((15 : Nat) : Int) + 1))) none).run Try.prog u = .ok (.string ⟨#[Oct.dg 15]⟩) u)
  | n + 16, h => omega

set_option maxRecDepth 100000 in
set_option maxHeartbeats 4000000 in
theorem ref01_Hex (A : Option Addr) (n c : Nat) (bs : List UInt8) (w : World) (h : Byt w w.heap.size A n c bs) (hn : n ≤ 1000000) :
    Calls Try.prog 36 #[.slice A n c] w fun e w' => e = .returned (.string ⟨(Oct.hexS bs).toArray⟩) ∧ ∃ k, w' = w.drewN k := by
  have hl := Lib.hid h.1
  have hr := h.2.2
  clear h
  go_enter Try.func36, Try.ntmps36
  go_wp2_with fail
  go_loopg [4, 5] n (fun g v i wr => ∃ k : Nat, k + g = n ∧ i = .int .i64 k ∧ v = .string ⟨(Oct.hexS (bs.take k)).toArray⟩ ∧ ∃ d, wr = w.drewN d)
  case atStart => exact ⟨0, by omega, rfl, rfl, 0, rfl⟩
  case round =>
    obtain ⟨k, hk, rfl, rfl, d, rfl⟩ := hrel
    cases gk with
    | zero =>
      obtain rfl : k = n := by omega
      rw [List.take_of_length_le (by rw [hl.out]; omega)]
      go_wp2_with fail
      go_ret
      exact ⟨rfl, _, rfl⟩
    | succ g =>
      have hlt : (k : Int) < (n : Int) := by omega
      have p0 : (0 : Int) ≤ (k : Int) := by omega
      obtain ⟨b, o, rfl, hb, -⟩ := hr.at_ (j := k) (by rw [length_bcells, hl.out]; omega)
      have c1 := hr.byte k (by rw [hl.out]; omega)
      have ht := Lib.hid (Oct.hexS_take bs k (by rw [hl.out]; omega))
      have hlen : (Oct.hexS (bs.take k)).length ≤ 2 * n := by rw [Oct.hexS_length, List.length_take]; omega
      have hx := (bs.getD k 0).toNat_lt
      generalize (bs.getD k 0).toNat = x at *
      have d1 : ∀ u : World, (Instr.slice 9 (.string ⟨#[48, 49, 50, 51, 52, 53, 54, 55, 56, 57, 97, 98, 99, 100, 101, 102]⟩) (some (.int .u8 ((x : Int) / 16))) (some (.int .u8 ((x : Int) / 16 + 1))) none).run Try.prog u = .ok (.string ⟨#[Oct.dg (x / 16)]⟩) u := fun u => digit_slice (x / 16) (by omega) u
      have d2 : ∀ u : World, (Instr.slice 9 (.string ⟨#[48, 49, 50, 51, 52, 53, 54, 55, 56, 57, 97, 98, 99, 100, 101, 102]⟩) (some (.int .u8 ((x : Int) % 16))) (some (.int .u8 ((x : Int) % 16 + 1))) none).run Try.prog u = .ok (.string ⟨#[Oct.dg (x % 16)]⟩) u := fun u => digit_slice (x % 16) (by omega) u
      generalize Oct.dg (x / 16) = y1 at *
      generalize Oct.dg (x % 16) = y2 at *
      generalize Oct.hexS (bs.take k) = L at *
      go_wp2_with fail
      go_quiet (fail)
      go_wp2_with fail
      go_roundg g
      case measure => omega
      case rel =>
        refine ⟨k + 1, by omega, by go_num, ?_, _, by first | rfl | (simp only [World.drewN_drewN]; rfl)⟩
        rw [ht.out]
        first
          | (simp; done)
          | (apply congrArg Value.string; apply ByteArray.ext; simp)
end Go.Proofs.Ytpacdjkikbdkeaa
end

section
namespace Go.Proofs.Ytpacdjkikbdkeaa
set_option maxRecDepth 100000
set_option linter.unusedSimpArgs false
set_option linter.unusedVariables false
open Go.RowKit

/-- What the reference's Split leaves. -/
def RSp (w : World) (l : List (List UInt8)) (er : Int) (e : Ending) (w' : World) : Prop :=
  ∃ (A : Option Addr) (c : Nat) (vs : List SV), e = .returned (.tuple #[.slice A l.length c, .int .i64 er]) ∧ vs.map SV.bs = l ∧ Byts w' w'.heap.size A vs ∧ Below w.heap.size w w'

theorem split_more (cur rest : List UInt8) (m : Nat) (hm : 1 ≤ m) (hc : cur.length = m) : Oct.split (cur ++ rest) m = cur :: Oct.split rest m := by
  rw [Oct.split_cons _ m hm (by rw [List.length_append]; omega)]
  rw [List.take_append_of_le_length (by omega), List.take_of_length_le (by omega), List.drop_append_of_le_length (by omega), List.drop_of_length_le (by omega)]
  rfl
theorem split_last (cur : List UInt8) (m : Nat) (hm : 1 ≤ m) (h0 : 0 < cur.length) (hc : cur.length ≤ m) : Oct.split cur m = [cur] := by
  rw [Oct.split_cons _ m hm h0, List.take_of_length_le hc, List.drop_of_length_le hc]; rfl
theorem drop_get (l : List UInt8) (k : Nat) (h : k < l.length) : l.drop k = l.getD k 0 :: l.drop (k + 1) := by
  rw [List.drop_eq_getElem_cons h]; simp [List.getD, List.getElem?_eq_getElem h]
/-- All blocks of the pieces lie below B0. -/
def Under (B0 : Nat) (vs : List SV) : Prop := ∀ v ∈ vs, v.c = 0 ∨ ∀ g, v.a.map (·.block) = some g → g < B0
theorem Own.under {w : World} {base : Nat} {t : TypeId} {s n c : Nat} {A : Option Addr} {cs : List Value} (h : Own w base t s A n c cs) : c = 0 ∨ ∀ g, A.map (·.block) = some g → g < w.heap.size := by
  rcases Nat.eq_zero_or_pos c with h0 | h0
  · exact .inl h0
  · refine .inr fun g hg => ?_
    obtain ⟨g1, cur, rfl, _, hh, _⟩ := h.2.2.2 h0
    simp at hg
    subst hg
    exact (Array.getElem?_eq_some_iff.1 hh).1
theorem own_apart {w : World} {B0 : Nat} {t : TypeId} {s n c : Nat} {A A' : Option Addr} {c' : Nat} {cs : List Value} (h : Own w B0 t s A n c cs) (hu : c' = 0 ∨ ∀ g, A'.map (·.block) = some g → g < B0) : c' = 0 ∨ ∀ g, A'.map (·.block) = some g → ownAt A c ≠ some g := by
  refine hu.imp_right fun hh g hg e => ?_
  have h1 := (h.lt g e).1
  have h2 := hh g hg
  omega

end Go.Proofs.Ytpacdjkikbdkeaa
end

section
namespace Go.Proofs.Ytpacdjkikbdkeaa
set_option maxRecDepth 100000
set_option linter.unusedSimpArgs false
set_option linter.unusedVariables false
open Go.RowKit

theorem ex_hex : Oct.hexS [10, 255] = [48, 97, 102, 102] ∧ Oct.hexS [1, 2, 128, 0] = [48, 49, 48, 50, 56, 48, 48, 48] ∧ Oct.hexS [0] = [48, 48] ∧ Oct.hexS [0, 1, 2] = [48, 48, 48, 49, 48, 50] ∧ Oct.hexS [3] = [48, 51] := by decide +kernel

end Go.Proofs.Ytpacdjkikbdkeaa
end

section
namespace Go.Proofs.Ytpacdjkikbdkeaa
set_option maxRecDepth 100000
set_option linter.unusedSimpArgs false
set_option linter.unusedVariables false
open Go.RowKit

theorem ex_cls1 (w : World) : Calls Try.prog 56 #[.int .i64 148] w fun e w' => e = .returned (.tuple #[infoV 0 true true true, .bool true]) ∧ Below w.heap.size w w' := by
  have h := apdu_Class 148 w
  have e1 : Apd.cok 148 = true := by decide +kernel
  have e2 : Apd.clsV 148 = infoV 0 true true true := by unfold Apd.clsV; rw [e1]; rfl
  rw [e1, e2] at h
  exact h
theorem ex_cls2 (w : World) : Calls Try.prog 56 #[.int .i64 8] w fun e w' => e = .returned (.tuple #[infoV 0 false false false, .bool false]) ∧ Below w.heap.size w w' := by
  have h := apdu_Class 8 w
  have e1 : Apd.cok 8 = false := by decide +kernel
  have e2 : Apd.clsV 8 = infoV 0 false false false := by unfold Apd.clsV; rw [e1]; rfl
  rw [e1, e2] at h
  exact h
theorem ex_apdhex : Oct.hexS [0, 164, 4, 0, 2, 160, 0, 0] = [48, 48, 97, 52, 48, 52, 48, 48, 48, 50, 97, 48, 48, 48, 48, 48] ∧ Oct.hexS [0, 164, 4, 0, 0, 0, 2, 160, 0, 1, 0] = [48, 48, 97, 52, 48, 52, 48, 48, 48, 48, 48, 48, 48, 50, 97, 48, 48, 48, 48, 49, 48, 48] := by decide +kernel

theorem Byt.after {w w' : World} {A : Option Addr} {n c : Nat} {bs : List UInt8} (h : Byt w w.heap.size A n c bs) (hb : Below w.heap.size w w') : Byt w' w'.heap.size A n c bs := (h.below hb).more hb.size
theorem Byt.alloc' {w : World} {A : Option Addr} {n c : Nat} {bs : List UInt8} (h : Byt w w.heap.size A n c bs) (o : Obj) : Byt (w.alloc o) (w.alloc o).heap.size A n c bs := h.after ((Below.refl _ _).alloc (Nat.le_refl _) o)
theorem Blk.after {w w' : World} {g : Nat} {t : TypeId} {cs : Array Value} (h : Blk w g t cs) (hb : Below w.heap.size w w') : Blk w' g t cs := h.below hb h.lt
theorem bgo {a w w' : World} (h : Below a.heap.size a w) (hb : Below w.heap.size w w') : Below a.heap.size a w' := h.trans (hb.mono h.size)
theorem bal {a w : World} (h : Below a.heap.size a w) (o : Obj) : Below a.heap.size a (w.alloc o) := h.alloc h.size o
theorem twoB (w : World) (t s : TypeId) (X Y : Array Value) : Blk ((w.alloc (.cells X t)).alloc (.cells Y s)) w.heap.size t X ∧ Blk ((w.alloc (.cells X t)).alloc (.cells Y s)) (w.heap.size + 1) s Y ∧ Below w.heap.size w ((w.alloc (.cells X t)).alloc (.cells Y s)) :=
  ⟨(Blk.new w t X).alloc _, Blk.new' (g := w.heap.size + 1) (w.alloc (.cells X t)) (by simp) rfl, bal (bal (Below.refl w.heap.size w) _) _⟩
theorem byt_new {w : World} {g n : Nat} {t : TypeId} {bs : List UInt8} {X : Array Value} (h : Blk w g t X) (hX : X = (bcells bs).toArray) (hn : bs.length = n) : Byt w w.heap.size (some ⟨g, 0, none⟩) n n bs := by
  subst hX; exact byt_blk h h.lt hn

end Go.Proofs.Ytpacdjkikbdkeaa
end

section
namespace Go.Proofs.Ytpacdjkikbdkeaa
set_option maxRecDepth 100000
set_option linter.unusedSimpArgs false
set_option linter.unusedVariables false
open Go.RowKit

/-- Are two commands equal? -/
def Apd.smB (a0 a1 a2 a3 : Int) (d : List UInt8) (le : Int) (lg : Bool) (b0 b1 b2 b3 : Int) (d' : List UInt8) (le' : Int) (lg' : Bool) : Bool :=
  (a0 == b0) && (a1 == b1) && (a2 == b2) && (a3 == b3) && (le == le') && (lg == lg') && Oct.same d d'
theorem Apd.smB_iff (a0 a1 a2 a3 : Int) (d : List UInt8) (le : Int) (lg : Bool) (b0 b1 b2 b3 : Int) (d' : List UInt8) (le' : Int) (lg' : Bool) :
    Apd.smB a0 a1 a2 a3 d le lg b0 b1 b2 b3 d' le' lg' = true ↔ a0 = b0 ∧ a1 = b1 ∧ a2 = b2 ∧ a3 = b3 ∧ le = le' ∧ lg = lg' ∧ d = d' := by
  simp [Apd.smB, Oct.same, and_assoc]
theorem Apd.smB_refl (a0 a1 a2 a3 : Int) (d : List UInt8) (le : Int) (lg : Bool) : Apd.smB a0 a1 a2 a3 d le lg a0 a1 a2 a3 d le lg = true := by
  rw [Apd.smB_iff]; exact ⟨rfl, rfl, rfl, rfl, rfl, rfl, rfl⟩
/-- Are two responses equal? -/
def Apd.srB (d : List UInt8) (sw : Int) (d' : List UInt8) (sw' : Int) : Bool := (sw == sw') && Oct.same d d'

set_option maxRecDepth 100000 in
set_option maxHeartbeats 8000000 in
theorem ref04_Same (a0 a1 a2 a3 : Int) (A : Option Addr) (n c : Nat) (d : List UInt8) (le : Int) (lg : Bool) (b0 b1 b2 b3 : Int) (A' : Option Addr) (n' c' : Nat) (d' : List UInt8) (le' : Int) (lg' : Bool) (w : World)
    (h : Byt w w.heap.size A n c d) (h' : Byt w w.heap.size A' n' c' d') (hn : n ≤ 9223372036854775807) (hn' : n' ≤ 9223372036854775807) :
    Calls Try.prog 14 #[cmdV a0 a1 a2 a3 A n c le lg, cmdV b0 b1 b2 b3 A' n' c' le' lg'] w fun e w' => e = .returned (.bool (Apd.smB a0 a1 a2 a3 d le lg b0 b1 b2 b3 d' le' lg')) ∧ Below w.heap.size w w' := by
  have HB := Lib.hid (fun o o' => bal (bal (Below.refl w.heap.size w) o) o')
  have HY := Lib.hid (fun o o' => (h.alloc' o).alloc' o')
  have HY' := Lib.hid (fun o o' => (h'.alloc' o).alloc' o')
  clear h h'
  unfold cmdV
  cases t0 : (a0 == b0) with
  | false =>
    have e : Apd.smB a0 a1 a2 a3 d le lg b0 b1 b2 b3 d' le' lg' = false := by unfold Apd.smB; rw [t0]; simp
    have HE := Lib.hid e
    clear e HY HY'
    go_enter Try.func14, Try.ntmps14
    go_wp2_with fail
    go_ret
    rw [HE.out]
    exact ⟨rfl, HB.out _ _⟩
  | true =>
  obtain rfl := eq_of_beq t0
  clear t0
  cases t1 : (a1 == b1) with
  | false =>
    have e : Apd.smB a0 a1 a2 a3 d le lg a0 b1 b2 b3 d' le' lg' = false := by unfold Apd.smB; rw [t1]; simp
    have HE := Lib.hid e
    clear e HY HY'
    go_enter Try.func14, Try.ntmps14
    go_wp2_with fail
    go_ret
    rw [HE.out]
    exact ⟨rfl, HB.out _ _⟩
  | true =>
  obtain rfl := eq_of_beq t1
  clear t1
  cases t2 : (a2 == b2) with
  | false =>
    have e : Apd.smB a0 a1 a2 a3 d le lg a0 a1 b2 b3 d' le' lg' = false := by unfold Apd.smB; rw [t2]; simp
    have HE := Lib.hid e
    clear e HY HY'
    go_enter Try.func14, Try.ntmps14
    go_wp2_with fail
    go_ret
    rw [HE.out]
    exact ⟨rfl, HB.out _ _⟩
  | true =>
  obtain rfl := eq_of_beq t2
  clear t2
  cases t3 : (a3 == b3) with
  | false =>
    have e : Apd.smB a0 a1 a2 a3 d le lg a0 a1 a2 b3 d' le' lg' = false := by unfold Apd.smB; rw [t3]; simp
    have HE := Lib.hid e
    clear e HY HY'
    go_enter Try.func14, Try.ntmps14
    go_wp2_with fail
    go_ret
    rw [HE.out]
    exact ⟨rfl, HB.out _ _⟩
  | true =>
  obtain rfl := eq_of_beq t3
  clear t3
  cases t4 : (le == le') with
  | false =>
    have e : Apd.smB a0 a1 a2 a3 d le lg a0 a1 a2 a3 d' le' lg' = false := by unfold Apd.smB; rw [t4]; simp
    have HE := Lib.hid e
    clear e HY HY'
    go_enter Try.func14, Try.ntmps14
    go_wp2_with fail
    go_ret
    rw [HE.out]
    exact ⟨rfl, HB.out _ _⟩
  | true =>
  obtain rfl := eq_of_beq t4
  clear t4
  cases t5 : (lg == lg') with
  | false =>
    have e : Apd.smB a0 a1 a2 a3 d le lg a0 a1 a2 a3 d' le lg' = false := by unfold Apd.smB; rw [t5]; simp
    have HE := Lib.hid e
    clear e HY HY'
    go_enter Try.func14, Try.ntmps14
    go_wp2_with fail
    go_ret
    rw [HE.out]
    exact ⟨rfl, HB.out _ _⟩
  | true =>
  obtain rfl := eq_of_beq t5
  clear t5
  have e : Apd.smB a0 a1 a2 a3 d le lg a0 a1 a2 a3 d' le lg = Oct.same d d' := by simp [Apd.smB]
  have HE := Lib.hid e
  clear e
  go_enter Try.func14, Try.ntmps14
  go_wp2_with (go_at_call 13; refine (ref01_Same _ _ _ _ _ _ _ _ _ (HY.out _ _) (HY'.out _ _) hn hn').mono ?_; rintro e w1 ⟨rfl, q, rfl⟩)
  go_ret
  rw [HE.out]
  exact ⟨rfl, Below.drewN (HB.out _ _) q⟩

set_option maxRecDepth 100000 in
set_option maxHeartbeats 8000000 in
theorem ref04_SameResponse (A : Option Addr) (n c : Nat) (d : List UInt8) (sw : Int) (A' : Option Addr) (n' c' : Nat) (d' : List UInt8) (sw' : Int) (w : World)
    (h : Byt w w.heap.size A n c d) (h' : Byt w w.heap.size A' n' c' d') (hn : n ≤ 9223372036854775807) (hn' : n' ≤ 9223372036854775807) :
    Calls Try.prog 28 #[rspV A n c sw, rspV A' n' c' sw'] w fun e w' => e = .returned (.bool (Apd.srB d sw d' sw')) ∧ Below w.heap.size w w' := by
  have HB := Lib.hid (fun o o' => bal (bal (Below.refl w.heap.size w) o) o')
  have HY := Lib.hid (fun o o' => (h.alloc' o).alloc' o')
  have HY' := Lib.hid (fun o o' => (h'.alloc' o).alloc' o')
  clear h h'
  unfold rspV
  cases t0 : (sw == sw') with
  | false =>
    have e : Apd.srB d sw d' sw' = false := by unfold Apd.srB; rw [t0]; simp
    have HE := Lib.hid e
    clear e HY HY'
    go_enter Try.func28, Try.ntmps28
    go_wp2_with fail
    go_ret
    rw [HE.out]
    exact ⟨rfl, HB.out _ _⟩
  | true =>
  obtain rfl := eq_of_beq t0
  clear t0
  have e : Apd.srB d sw d' sw = Oct.same d d' := by simp [Apd.srB]
  have HE := Lib.hid e
  clear e
  go_enter Try.func28, Try.ntmps28
  go_wp2_with (go_at_call 13; refine (ref01_Same _ _ _ _ _ _ _ _ _ (HY.out _ _) (HY'.out _ _) hn hn').mono ?_; rintro e w1 ⟨rfl, q, rfl⟩)
  go_ret
  rw [HE.out]
  exact ⟨rfl, Below.drewN (HB.out _ _) q⟩
end Go.Proofs.Ytpacdjkikbdkeaa
end

section
namespace Go.Proofs.Ytpacdjkikbdkeaa
set_option maxRecDepth 100000
set_option linter.unusedSimpArgs false
set_option linter.unusedVariables false
open Go.RowKit

/-- Two strings of the same bytes are the same. -/
theorem ref01_SameT (A A' : Option Addr) (n n' c c' : Nat) (bs : List UInt8) (w : World) (hx : Byt w w.heap.size A n c bs) (hy : Byt w w.heap.size A' n' c' bs) (hn : n ≤ 9223372036854775807) :
    Calls Try.prog 13 #[.slice A n c, .slice A' n' c'] w fun e w' => e = .returned (.bool true) ∧ ∃ k, w' = w.drewN k := by
  have h := ref01_Same A A' n n' c c' bs bs w hx hy hn (by have h1 := hx.1; have h2 := hy.1; omega)
  rw [Oct.same_refl] at h
  exact h

end Go.Proofs.Ytpacdjkikbdkeaa
end

section
namespace Go.Proofs.Ytpacdjkikbdkeaa
set_option maxRecDepth 100000
set_option linter.unusedSimpArgs false
set_option linter.unusedVariables false
open Go.RowKit

/-- Is it a status word? -/
def Apd.wrd (x : Int) : Bool := decide ((24832 ≤ x ∧ x < 28672) ∨ (36864 ≤ x ∧ x < 40960))
/-- Does it report success? -/
def Apd.suc (x : Int) : Bool := decide (x = 36864 ∨ (24832 ≤ x ∧ x ≤ 25599))

theorem apdu_status (x : Int) (w : World) : Calls Try.prog 63 #[.int .i64 x] w fun e w' => e = .returned (.bool (Apd.wrd x)) ∧ w = w' := by
  have hsh : x >>> 8 = x / 256 := by rw [Int.shiftRight_eq_div_pow]; rfl
  rcases (show x / 256 < 97 ∨ (97 ≤ x / 256 ∧ x / 256 ≤ 111) ∨ (97 ≤ x / 256 ∧ 111 < x / 256 ∧ x / 256 < 144) ∨ (97 ≤ x / 256 ∧ 111 < x / 256 ∧ 144 ≤ x / 256 ∧ x / 256 ≤ 159) ∨ (97 ≤ x / 256 ∧ 111 < x / 256 ∧ 144 ≤ x / 256 ∧ 159 < x / 256) by omega) with h | ⟨h1, h2⟩ | ⟨h1, h2, h3⟩ | ⟨h1, h2, h3, h4⟩ | ⟨h1, h2, h3, h4⟩
  · have e : Apd.wrd x = false := decide_eq_false (by omega)
    rw [e]
    clear e
    try replace h0 := beq_eq_false_iff_ne.2 h0
    try subst h0
    go_enter Try.func63, Try.ntmps63
    go_wp2_with fail
    go_ret
    refine ⟨?_, rfl⟩
    first
      | rfl
      | (simp; omega)
  · have e : Apd.wrd x = true := decide_eq_true (by omega)
    rw [e]
    clear e
    try replace h0 := beq_eq_false_iff_ne.2 h0
    try subst h0
    go_enter Try.func63, Try.ntmps63
    go_wp2_with fail
    go_ret
    refine ⟨?_, rfl⟩
    first
      | rfl
      | (simp; omega)
  · have e : Apd.wrd x = false := decide_eq_false (by omega)
    rw [e]
    clear e
    try replace h0 := beq_eq_false_iff_ne.2 h0
    try subst h0
    go_enter Try.func63, Try.ntmps63
    go_wp2_with fail
    go_ret
    refine ⟨?_, rfl⟩
    first
      | rfl
      | (simp; omega)
  · have e : Apd.wrd x = true := decide_eq_true (by omega)
    rw [e]
    clear e
    try replace h0 := beq_eq_false_iff_ne.2 h0
    try subst h0
    go_enter Try.func63, Try.ntmps63
    go_wp2_with fail
    go_ret
    refine ⟨?_, rfl⟩
    first
      | rfl
      | (simp; omega)
  · have e : Apd.wrd x = false := decide_eq_false (by omega)
    rw [e]
    clear e
    try replace h0 := beq_eq_false_iff_ne.2 h0
    try subst h0
    go_enter Try.func63, Try.ntmps63
    go_wp2_with fail
    go_ret
    refine ⟨?_, rfl⟩
    first
      | rfl
      | (simp; omega)

theorem ref04_Word (x : Int) (w : World) : Calls Try.prog 34 #[.int .i64 x] w fun e w' => e = .returned (.bool (Apd.wrd x)) ∧ w = w' := by
  rcases (show x ≤ 24831 ∨ (24831 < x ∧ x < 28672) ∨ (24831 < x ∧ 28672 ≤ x ∧ x < 36864) ∨ (24831 < x ∧ 28672 ≤ x ∧ 36864 ≤ x ∧ x < 40960) ∨ (24831 < x ∧ 28672 ≤ x ∧ 36864 ≤ x ∧ 40960 ≤ x) by omega) with h | ⟨h1, h2⟩ | ⟨h1, h2, h3⟩ | ⟨h1, h2, h3, h4⟩ | ⟨h1, h2, h3, h4⟩
  · have e : Apd.wrd x = false := decide_eq_false (by omega)
    rw [e]
    clear e
    try replace h0 := beq_eq_false_iff_ne.2 h0
    try subst h0
    go_enter Try.func34, Try.ntmps34
    go_wp2_with fail
    go_ret
    refine ⟨?_, rfl⟩
    first
      | rfl
      | (simp; omega)
  · have e : Apd.wrd x = true := decide_eq_true (by omega)
    rw [e]
    clear e
    try replace h0 := beq_eq_false_iff_ne.2 h0
    try subst h0
    go_enter Try.func34, Try.ntmps34
    go_wp2_with fail
    go_ret
    refine ⟨?_, rfl⟩
    first
      | rfl
      | (simp; omega)
  · have e : Apd.wrd x = false := decide_eq_false (by omega)
    rw [e]
    clear e
    try replace h0 := beq_eq_false_iff_ne.2 h0
    try subst h0
    go_enter Try.func34, Try.ntmps34
    go_wp2_with fail
    go_ret
    refine ⟨?_, rfl⟩
    first
      | rfl
      | (simp; omega)
  · have e : Apd.wrd x = true := decide_eq_true (by omega)
    rw [e]
    clear e
    try replace h0 := beq_eq_false_iff_ne.2 h0
    try subst h0
    go_enter Try.func34, Try.ntmps34
    go_wp2_with fail
    go_ret
    refine ⟨?_, rfl⟩
    first
      | rfl
      | (simp; omega)
  · have e : Apd.wrd x = false := decide_eq_false (by omega)
    rw [e]
    clear e
    try replace h0 := beq_eq_false_iff_ne.2 h0
    try subst h0
    go_enter Try.func34, Try.ntmps34
    go_wp2_with fail
    go_ret
    refine ⟨?_, rfl⟩
    first
      | rfl
      | (simp; omega)

/-- The status word that ends bytes. -/
def Apd.swd (b : List UInt8) : Int := 256 * ((b.getD (b.length - 2) 0).toNat : Int) + ((b.getD (b.length - 1) 0).toNat : Int)
/-- The error of DecodeResponse. -/
def Apd.rdE (b : List UInt8) : Int := if b.length < 2 then 5 else if 65538 < b.length then 3 else if Apd.wrd (Apd.swd b) = true then 0 else 2
/-- What DecodeResponse leaves. -/
def RRes (w : World) (b : List UInt8) (e : Ending) (w' : World) : Prop :=
  Below w.heap.size w w' ∧
  ((Apd.rdE b ≠ 0 ∧ e = .returned (.tuple #[rspV none 0 0 0, .int .i64 (Apd.rdE b)])) ∨
   (Apd.rdE b = 0 ∧ ∃ A c, e = .returned (.tuple #[rspV A (b.length - 2) c (Apd.swd b), .int .i64 0]) ∧ Own w' w.heap.size 5 1 A (b.length - 2) c (bcells (b.take (b.length - 2)))))
theorem rsp_one (A : Option Addr) (n c : Nat) (sw : Int) : (#[.slice A n c, I64 sw] : Array Value).all (·.oneCell') = true := by simp [Value.oneCell']
theorem or_sw (x y : Nat) (hx : x < 256) (hy : y < 256) : bits .or .i64 (256 * (x : Int)) (y : Int) = 256 * (x : Int) + (y : Int) := by
  rw [show 256 * (x : Int) = ((x * 256 : Nat) : Int) by omega, i64_or_nat _ _ (by omega) (by omega), nat_join 8 _ _ (by omega) (by omega)]; omega

end Go.Proofs.Ytpacdjkikbdkeaa
end

section
namespace Go.Proofs.Ytpacdjkikbdkeaa
set_option maxRecDepth 100000
set_option linter.unusedSimpArgs false
set_option linter.unusedVariables false
open Go.RowKit

section
variable {P : Program}
theorem equalIn_func_nil (d : Nat) {t : TypeId} {ps rs : Array TypeId} {vr : Bool} (h : P.underlying t = some (.func ps rs vr)) (fn : Fn) (a b : Array Value) (w : World) : (Op.equalIn (d + 1) t (.func fn a b) .nilFunc).run P w = .ok false w := by
  simp [Op.equalIn, run_underlying h]
theorem equalIn_nil_nil (d : Nat) {t : TypeId} {ps rs : Array TypeId} {vr : Bool} (h : P.underlying t = some (.func ps rs vr)) (w : World) : (Op.equalIn (d + 1) t .nilFunc .nilFunc).run P w = .ok true w := by
  simp [Op.equalIn, run_underlying h]
theorem equal_func_nil {t : TypeId} {ps rs : Array TypeId} {vr : Bool} (h : P.underlying t = some (.func ps rs vr)) (fn : Fn) (a b : Array Value) (w : World) : (Op.equal t (.func fn a b) .nilFunc).run P w = .ok false w := equalIn_func_nil 9999 h fn a b w
theorem equal_nil_nil {t : TypeId} {ps rs : Array TypeId} {vr : Bool} (h : P.underlying t = some (.func ps rs vr)) (w : World) : (Op.equal t .nilFunc .nilFunc).run P w = .ok true w := equalIn_nil_nil 9999 h w
theorem eql_func_nil {t : TypeId} {ps rs : Array TypeId} {vr : Bool} (h : P.underlying t = some (.func ps rs vr)) (fn : Fn) (a b : Array Value) (w : World) : (binOp .eql t (.func fn a b) .nilFunc).run P w = .ok (.bool false) w := by
  simp only [binOp]
  simp [equal_func_nil h]
theorem neq_func_nil {t : TypeId} {ps rs : Array TypeId} {vr : Bool} (h : P.underlying t = some (.func ps rs vr)) (fn : Fn) (a b : Array Value) (w : World) : (binOp .neq t (.func fn a b) .nilFunc).run P w = .ok (.bool true) w := by
  simp only [binOp]
  simp [equal_func_nil h]
theorem eql_nil_nil {t : TypeId} {ps rs : Array TypeId} {vr : Bool} (h : P.underlying t = some (.func ps rs vr)) (w : World) : (binOp .eql t .nilFunc .nilFunc).run P w = .ok (.bool true) w := by
  simp only [binOp]
  simp [equal_nil_nil h]
theorem neq_nil_nil {t : TypeId} {ps rs : Array TypeId} {vr : Bool} (h : P.underlying t = some (.func ps rs vr)) (w : World) : (binOp .neq t .nilFunc .nilFunc).run P w = .ok (.bool false) w := by
  simp only [binOp]
  simp [equal_nil_nil h]
theorem neq_map_nil {t k e : TypeId} (h : P.underlying t = some (.map k e)) (m : Option Nat) (w : World) : (binOp .neq t (.map m) (.map none)).run P w = .ok (.bool (!m.isNone)) w := Go.run_neq_map_nil w t k e m h
theorem make_func (fn : Fn) (a b : Array Value) (w : World) : (Instr.makeFunc fn a b).run P w = .ok (.func fn a b) w := rfl
end
end Go.Proofs.Ytpacdjkikbdkeaa
end

section
namespace Go.Proofs.Ytpacdjkikbdkeaa
set_option maxRecDepth 100000
set_option linter.unusedSimpArgs false
set_option linter.unusedVariables false
open Go.RowKit

/-- A slice of ints: n of them, capacity c. -/
def Ints (w : World) (B : Nat) (A : Option Addr) (n c : Nat) (xs : List Int) : Prop := xs.length = n ∧ n ≤ c ∧ Row w B A (xs.map I64)
section
variable {w w' : World} {B B' : Nat} {A : Option Addr} {n c : Nat} {xs : List Int}
theorem Ints.below (h : Ints w B A n c xs) (hb : Below B w w') : Ints w' B A n c xs := ⟨h.1, h.2.1, h.2.2.below hb⟩
theorem Ints.more (h : Ints w B A n c xs) (hB : B ≤ B') : Ints w B' A n c xs := ⟨h.1, h.2.1, h.2.2.more hB⟩
theorem Ints.at_ (h : Ints w B A n c xs) {k : Nat} (hk : k < n) : ∃ b o, A = some ⟨b, o, none⟩ ∧ b < B ∧ w.cell? ⟨b, o + k, none⟩ = some (.int .i64 (xs.getD k 0)) := by
  have hl : k < xs.length := by rw [h.1]; exact hk
  obtain ⟨b, o, e, hb, hc⟩ := h.2.2.at_ (j := k) (by simpa using hl)
  exact ⟨b, o, e, hb, by rw [hc]; simp [List.getD, List.getElem?_eq_getElem hl]⟩
end
theorem ints_of_row {w : World} {a : Option Addr} {len cap : Nat} {zs : List Int}
    (h : (a = none ∧ len = 0 ∧ cap = 0 ∧ zs = []) ∨ ∃ x, a = some x ∧ len ≤ cap ∧ cap ≤ maxLen ∧ zs.length = cap ∧ (∀ i, i < zs.length → w.cell? (x.add i) = some (.int .i64 (zs.getD i 0))) ∧ ∀ n ∈ zs, (Lit.int .i64 n).wf = true) :
    ∃ xs, Ints w w.heap.size a len cap xs ∧ cap ≤ maxLen ∧ ∀ n ∈ xs, (Lit.int .i64 n).wf = true := by
  rcases h with ⟨rfl, rfl, rfl, rfl⟩ | ⟨x, rfl, hl, hm, hz, hc, hw⟩
  · exact ⟨[], ⟨rfl, Nat.le_refl _, Row.nil _ _ _⟩, Nat.zero_le _, fun n hn => by cases hn⟩
  · refine ⟨zs.take len, ⟨by simp; omega, hl, fun hn => ?_⟩, hm, fun n hn => hw n (List.mem_of_mem_take hn)⟩
    have hn' : 0 < len := by simp at hn; omega
    have hc0 := hc 0 (by omega)
    have hx0 : x.add 0 = x := by unfold Addr.add; simp
    rw [hx0] at hc0
    obtain ⟨b, o, s⟩ := x
    have hs : s = none := by
      cases s with
      | none => rfl
      | some q => simp only [World.cell?] at hc0; split at hc0 <;> simp at hc0
    subst hs
    refine ⟨b, o, rfl, World.block_lt_of_cell? w _ hc0, fun j hj => ?_⟩
    rw [List.length_map, List.length_take] at hj
    have hj' : j < zs.length := by omega
    have h1 := hc j hj'
    rw [add_eq] at h1
    rw [h1, List.getElem?_map, List.getElem?_take, if_pos (by omega), List.getElem?_eq_getElem hj']
    simp only [List.getD, List.getElem?_eq_getElem hj', Option.getD_some, Option.map_some, I64]
end Go.Proofs.Ytpacdjkikbdkeaa
end

section
namespace Go.Proofs.Ytpacdjkikbdkeaa
set_option maxRecDepth 100000
set_option linter.unusedSimpArgs false
set_option linter.unusedVariables false
open Go.RowKit

def Apd.erE (n : Nat) (sw : Int) : Int := if 65536 < n then 3 else if Apd.wrd sw = true then 0 else 2
def Apd.erB (d : List UInt8) (sw : Int) : List UInt8 := if Apd.erE d.length sw = 0 then d ++ Oct.putB sw.toNat 2 else []
theorem wrd_nat {sw : Int} (h : Apd.wrd sw = true) : ∃ s : Nat, sw = (s : Int) ∧ s < 40960 := by
  have := of_decide_eq_true h
  exact ⟨sw.toNat, by omega, by omega⟩
theorem put_two (s : Nat) : Oct.putB s 2 = [UInt8.ofNat (s / 256), UInt8.ofNat s] := by
  simp [Oct.putB, List.range_succ]
theorem put_cells (s : Nat) (hs : s < 65536) : bcells (Oct.putB s 2) = [.int .u8 ((s : Int) / 256), .int .u8 ((s : Int) % 256)] := by
  rw [put_two]
  show [B8 _, B8 _] = _
  rw [B8, B8, UInt8.toNat_ofNat', UInt8.toNat_ofNat', show s / 256 % 2 ^ 8 = s / 256 by omega]
  rfl
theorem own_not_at {w : World} {b g : Nat} {t t' : TypeId} {A : Option Addr} {n c s : Nat} {cs : List Value} {old : Array Value} (h : Own w b t s A n c cs) (hB : Blk w g t' old) (hne : t ≠ t') : ownAt A c ≠ some g := by
  intro e
  unfold ownAt at e
  split at e
  · cases e
  · obtain ⟨g2, cur, e2, _, hh, _⟩ := h.2.2.2 (by omega)
    subst e2
    simp only [Option.map_some, Option.some.injEq] at e
    subst e
    unfold Blk at hB
    rw [hh] at hB
    injection hB with hB
    injection hB with _ h2 _
    exact hne h2
theorem join_args {w : World} {A : Option Addr} {n c : Nat} {d bs : List UInt8} {C X : Array Value} {t1 t2 t3 : TypeId} (h : Byt w w.heap.size A n c d) (hX : X = (bcells bs).toArray) (hb : bs.length = 2) :
    Byts (((w.alloc (.cells C t1)).alloc (.cells X t2)).alloc (.cells #[.slice A n c, .slice (some ⟨w.heap.size + 1, 0, none⟩) 2 2] t3)) (((w.alloc (.cells C t1)).alloc (.cells X t2)).alloc (.cells #[.slice A n c, .slice (some ⟨w.heap.size + 1, 0, none⟩) 2 2] t3)).heap.size (some ⟨w.heap.size + 1 + 1, 0, none⟩) [⟨A, n, c, d⟩, ⟨some ⟨w.heap.size + 1, 0, none⟩, 2, 2, bs⟩] := by
  have b2 : Blk ((w.alloc (.cells C t1)).alloc (.cells X t2)) (w.heap.size + 1) t2 X := Blk.new' (g := w.heap.size + 1) (w.alloc (.cells C t1)) (by simp) rfl
  have b3 : Blk (((w.alloc (.cells C t1)).alloc (.cells X t2)).alloc (.cells #[.slice A n c, .slice (some ⟨w.heap.size + 1, 0, none⟩) 2 2] t3)) (w.heap.size + 1 + 1) t3 #[.slice A n c, .slice (some ⟨w.heap.size + 1, 0, none⟩) 2 2] := Blk.new' (g := w.heap.size + 1 + 1) ((w.alloc (.cells C t1)).alloc (.cells X t2)) (by simp) rfl
  refine ⟨b3.row, fun v hv => ?_⟩
  rcases List.mem_cons.1 hv with rfl | hv
  · exact ((h.alloc' _).alloc' _).alloc' _
  · obtain rfl := List.mem_singleton.1 hv
    exact byt_new (b2.alloc _) hX hb

set_option maxRecDepth 100000 in
set_option maxHeartbeats 8000000 in
theorem apdu_EncodeResponse (A : Option Addr) (n c : Nat) (d : List UInt8) (sw : Int) (w : World) (h : Byt w w.heap.size A n c d) (hn : n ≤ 1000000) :
    Calls Try.prog 43 #[rspV A n c sw] w (BRes 5 w (Apd.erB d sw) (Apd.erE n sw)) := by
  have hl := h.1
  have HB := Lib.hid (bal (Below.refl w.heap.size w) (.cells #[.slice A n c, I64 sw] 42))
  have HK := Lib.hid (Blk.new w 42 #[.slice A n c, I64 sw])
  have hsh : sw >>> 8 = sw / 256 := by rw [Int.shiftRight_eq_div_pow]; rfl
  unfold rspV
  by_cases hbig : 65536 < n
  · have e1 : Apd.erE n sw = 3 := by unfold Apd.erE; rw [if_pos hbig]
    have e2 : Apd.erB d sw = [] := by unfold Apd.erB; rw [hl, e1, if_neg (by decide)]
    have i1 : (65536 : Int) < (n : Int) := by omega
    rw [e1, e2]
    clear e1 e2 h hl
    go_enter Try.func43, Try.ntmps43
    go_wp2_with fail
    go_ret2
    exact BRes.nil _ HB.out
  have i1 : ¬ (65536 : Int) < (n : Int) := by omega
  cases hw : Apd.wrd sw with
  | false =>
    have e1 : Apd.erE n sw = 2 := by unfold Apd.erE; rw [if_neg hbig, hw, if_neg (by decide)]
    have e2 : Apd.erB d sw = [] := by unfold Apd.erB; rw [hl, e1, if_neg (by decide)]
    rw [e1, e2]
    have HS := Lib.hid (fun u => apdu_status sw u)
    rw [hw] at HS
    clear e1 e2 h hl hw
    go_enter Try.func43, Try.ntmps43
    go_wp2_with (go_at_call 63; refine (HS.out _).mono ?_; rintro e w1 ⟨rfl, rfl⟩)
    go_ret2
    exact BRes.nil _ HB.out
  | true =>
    have e1 : Apd.erE n sw = 0 := by unfold Apd.erE; rw [if_neg hbig, hw, if_pos rfl]
    have e2 : Apd.erB d sw = d ++ Oct.putB sw.toNat 2 := by unfold Apd.erB; rw [hl, e1, if_pos rfl]
    rw [e1, e2]
    have HS := Lib.hid (fun u => apdu_status sw u)
    rw [hw] at HS
    obtain ⟨s, rfl, hs⟩ := wrd_nat hw
    have u1 : IntKind.u8.wrap ((s : Int) / 256) = (s : Int) / 256 := IntWalk.u8_in _ (by omega)
    have u2 : IntKind.u8.wrap (s : Int) = (s : Int) % 256 := by rw [IntKind.wrap_u8]
    rw [Int.toNat_natCast]
    have HP := Lib.hid (put_cells s (by omega))
    have HY := Lib.hid h
    clear e1 e2 h hw
    go_enter Try.func43, Try.ntmps43
    go_wp2_with (go_at_call 63; refine (HS.out _).mono ?_; rintro e w1 ⟨rfl, rfl⟩)
    go_at_call 64
    have hj : joined [⟨A, n, c, d⟩, ⟨some ⟨w.heap.size + 1, 0, none⟩, 2, 2, Oct.putB s 2⟩] = d ++ Oct.putB s 2 := by simp [joined]
    have hJ := octets_Join (some ⟨w.heap.size + 1 + 1, 0, none⟩) 2 2 _ _ (join_args (C := #[.slice A n c, I64 (s : Int)]) (t1 := 42) (t2 := 5) (t3 := 23) HY.out (X := #[.int .u8 ((s : Int) / 256), .int .u8 ((s : Int) % 256)]) (bs := Oct.putB s 2) (by rw [HP.out]) (Oct.putB_length _ _)) rfl (by omega) (by rw [hj, List.length_append, Oct.putB_length]; omega)
    rw [hj] at hJ
    refine hJ.mono ?_
    clear hJ
    rintro e w4 ⟨A4, c4, rfl, o4, b4⟩
    have hW := bgo (bal (bal HB.out (.cells #[.int .u8 ((s : Int) / 256), .int .u8 ((s : Int) % 256)] 5)) (.cells #[.slice A n c, .slice (some ⟨w.heap.size + 1, 0, none⟩) 2 2] 23)) b4
    have ho := o4.mono (base' := w.heap.size) (bal (bal HB.out (.cells #[.int .u8 ((s : Int) / 256), .int .u8 ((s : Int) % 256)] 5)) (.cells #[.slice A n c, .slice (some ⟨w.heap.size + 1, 0, none⟩) 2 2] 23)).size
    clear o4 b4
    go_wp2_with fail
    go_ret2
    refine ⟨A4, c4, ?_, ho, hW⟩
    rw [List.length_append, hl]
    rfl

set_option maxRecDepth 100000 in
set_option maxHeartbeats 8000000 in
theorem ref04_EncodeResponse (A : Option Addr) (n c : Nat) (d : List UInt8) (sw : Int) (w : World) (h : Byt w w.heap.size A n c d) (hn : n ≤ 1000000) :
    Calls Try.prog 47 #[rspV A n c sw] w (BRes 5 w (Apd.erB d sw) (Apd.erE n sw)) := by
  obtain ⟨ti, hti, hz0, hz1, hz2⟩ := info_parts o_u8
  have hl := h.1
  have HB := Lib.hid (bal (Below.refl w.heap.size w) (.cells #[.slice A n c, I64 sw] 42))
  have HK := Lib.hid (Blk.new w 42 #[.slice A n c, I64 sw])
  unfold rspV
  by_cases hbig : 65536 < n
  · have e1 : Apd.erE n sw = 3 := by unfold Apd.erE; rw [if_pos hbig]
    have e2 : Apd.erB d sw = [] := by unfold Apd.erB; rw [hl, e1, if_neg (by decide)]
    have i1 : (65536 : Int) < (n : Int) := by omega
    rw [e1, e2]
    clear e1 e2 h hl
    go_enter Try.func47, Try.ntmps47
    go_wp2_with fail
    go_ret2
    exact BRes.nil _ HB.out
  have i1 : ¬ (65536 : Int) < (n : Int) := by omega
  cases hw : Apd.wrd sw with
  | false =>
    have e1 : Apd.erE n sw = 2 := by unfold Apd.erE; rw [if_neg hbig, hw, if_neg (by decide)]
    have e2 : Apd.erB d sw = [] := by unfold Apd.erB; rw [hl, e1, if_neg (by decide)]
    rw [e1, e2]
    have HS := Lib.hid (fun u => ref04_Word sw u)
    rw [hw] at HS
    clear e1 e2 h hl hw
    go_enter Try.func47, Try.ntmps47
    go_wp2_with (go_at_call 34; refine (HS.out _).mono ?_; rintro e w1 ⟨rfl, rfl⟩)
    go_ret2
    exact BRes.nil _ HB.out
  | true =>
    have e1 : Apd.erE n sw = 0 := by unfold Apd.erE; rw [if_neg hbig, hw, if_pos rfl]
    have e2 : Apd.erB d sw = d ++ Oct.putB sw.toNat 2 := by unfold Apd.erB; rw [hl, e1, if_pos rfl]
    rw [e1, e2]
    have HS := Lib.hid (fun u => ref04_Word sw u)
    rw [hw] at HS
    obtain ⟨s, rfl, hs⟩ := wrd_nat hw
    rw [Int.toNat_natCast]
    have HN := Lib.hid (fun u => ref04_number s 2 u (.inr rfl) (by omega))
    have HY := Lib.hid h
    clear e1 e2 h hw
    go_enter Try.func47, Try.ntmps47
    go_upto_region 5 with (go_at_call 34; refine (HS.out _).mono ?_; rintro e w1 ⟨rfl, rfl⟩)
    refine wp_region_noPanic ?_
    refine wp_region_held_drew (S := fun u => u.cell? ⟨w.heap.size, 0, none⟩ = some (.slice A n c) ∧ u.cell? ⟨w.heap.size, 1, none⟩ = some (I64 (s : Int))) (by kernel_rfl) (by exact ⟨HK.out.cell 0, HK.out.cell 1⟩) (fun hHeld => ?_)
    refine wpAnyH_fresh (by repeat (first | apply Fresh.a | apply Fresh.b)) ?_
    iterate 2 (refine wpAnyH_take3 (b := 1) (by repeat (first | apply Seek.a | apply Seek.b | apply Seek.c)) (by simp only [List.getElem?_toArray, List.getElem?_cons_succ, List.getElem?_cons_zero]; first | done | exact rfl) ⟨?_, by kernel_rfl, by kernel_rfl, by kernel_rfl, fun _ _ _ h => h, Or.inl ⟨by rfl, ?_⟩, by assumption, ?_⟩; rotate_left 1; focus (intro w9 hSw; (try dsimp only at hSw); go_simp; try (with_reducible rfl)); try simp only [Act.put, List.setIfInBounds_toArray, List.set_cons_zero, List.set_cons_succ])
    iterate 2 (refine wpAnyH_take3 (b := 4) (by repeat (first | apply Seek.a | apply Seek.b | apply Seek.c)) (by simp only [List.getElem?_toArray, List.getElem?_cons_succ, List.getElem?_cons_zero]; first | done | exact rfl) ⟨?_, by kernel_rfl, by kernel_rfl, by kernel_rfl, fun _ _ _ h => h, Or.inl ⟨by rfl, ?_⟩, by assumption, ?_⟩; rotate_left 1; focus (intro w9 hSw; (try dsimp only at hSw); go_simp; try (with_reducible rfl)); try simp only [Act.put, List.setIfInBounds_toArray, List.set_cons_zero, List.set_cons_succ])
    refine wpAnyH_ready (rs := [0]) (by kernel_rfl) (by simp) ?_
    refine AllReadyH.cons2 (by simp only [List.getElem?_toArray, List.getElem?_cons_succ, List.getElem?_cons_zero]; first | done | exact rfl) (fun K hK => ?_)
    rw [if_pos (by rfl)]
    go_simp
    have B1 := Lib.hid ((HK.out.drew).alloc (.cells #[] 5))
    have W1 := Lib.hid (bal HB.out.drew (.cells #[] 5))
    refine hK.out _ _ (by exact ⟨B1.out.cell 0, B1.out.cell 1⟩) (fun hHeld => ?_)
    clear hK K
    try simp only [Act.put, List.setIfInBounds_toArray, List.set_cons_zero, List.set_cons_succ]
    refine wpAnyH_ready (rs := [3]) (by kernel_rfl) (by simp) ?_
    refine AllReadyH.cons2 (by simp only [List.getElem?_toArray, List.getElem?_cons_succ, List.getElem?_cons_zero]; first | done | exact rfl) (fun K hK => ?_)
    refine step_append _ rfl (.tmp 12) (.tmp 14) 23 rfl w.heap.size 5 ti _ 1 1 Try.underlying23 hti hz0 hz1 hz2 rfl (by omega) _ 0 0 [] rfl (Own.none_ _ _ _ _ _) w.heap.size A n c (bcells d) rfl (by exact (HY.out.below W1.out).2.2) (by rw [length_bcells]; omega) (bcells_one _) (by unfold maxLen; omega) (by omega) (by exact W1.out.size) ?_
    intro A5 c5 w5 hown5 hg5 hat5
    rw [Nat.zero_add, List.nil_append] at hown5
    rw [Nat.zero_add]
    have hb5 := (Own.none_ _ _ 5 1 _).grown hg5 (Below.refl _ _) (Nat.le_refl _)
    have B5 := Lib.hid (B1.out.after hb5)
    have W5 := Lib.hid (bgo W1.out hb5)
    have O5 := Lib.hid hown5
    clear hown5 hg5 hat5 hb5
    refine hK.out _ _ (by exact ⟨B5.out.cell 0, B5.out.cell 1⟩) (fun hHeld => ?_)
    clear hK K
    try simp only [Act.put, List.setIfInBounds_toArray, List.set_cons_zero, List.set_cons_succ]
    refine wpAnyH_ready (rs := [6]) (by kernel_rfl) (by simp) ?_
    refine AllReadyH.cons2 (by simp only [List.getElem?_toArray, List.getElem?_cons_succ, List.getElem?_cons_zero]; first | done | exact rfl) (fun K hK => ?_)
    rw [if_pos (by rfl)]
    go_simp
    go_at_call 66
    refine (HN.out _).mono ?_
    rintro e w6 ⟨A6, c6, rfl, o6, hb6⟩
    have B6 := Lib.hid (B5.out.after hb6)
    have W6 := Lib.hid (bgo W5.out hb6)
    have O6 := Lib.hid (O5.out.below hb6)
    have R6 := Lib.hid o6.row
    clear hb6 o6
    go_wp2_with fail
    refine hK.out _ _ (by exact ⟨B6.out.cell 0, B6.out.cell 1⟩) (fun hHeld => ?_)
    clear hK K
    try simp only [Act.put, List.setIfInBounds_toArray, List.set_cons_zero, List.set_cons_succ]
    refine wpAnyH_ready (rs := [7]) (by kernel_rfl) (by simp) ?_
    refine AllReadyH.cons2 (by simp only [List.getElem?_toArray, List.getElem?_cons_succ, List.getElem?_cons_zero]; first | done | exact rfl) (fun K hK => ?_)
    refine step_append _ rfl (.tmp 15) (.tmp 18) 23 rfl w.heap.size 5 ti _ 1 1 Try.underlying23 hti hz0 hz1 hz2 rfl (by omega) A5 n c5 (bcells d) rfl O6.out w6.heap.size A6 2 c6 (bcells (Oct.putB s 2)) rfl R6.out (by rw [length_bcells, Oct.putB_length]) (bcells_one _) (by unfold maxLen; omega) (by omega) (by exact W6.out.size) ?_
    intro A7 c7 w7 hown7 hg7 hat7
    have W7 := Lib.hid (O6.out.grown hg7 W6.out W6.out.size)
    have O7 := Lib.hid hown7
    have hb7 : w7.cell? ⟨w.heap.size, 0, none⟩ = some (.slice A n c) ∧ w7.cell? ⟨w.heap.size, 1, none⟩ = some (I64 (s : Int)) := by
      have hne : ownAt A5 c5 ≠ some w.heap.size := fun e => own_not_at O6.out B6.out (by decide) e
      have hB7 : Blk w7 w.heap.size 42 #[.slice A n c, I64 (s : Int)] := (hg7.block _ B6.out.lt hne.symm).trans B6.out
      exact ⟨hB7.cell 0, hB7.cell 1⟩
    clear hown7 hg7 hat7
    refine hK.out _ _ (by exact hb7) (fun hHeld => ?_)
    clear hK K
    try simp only [Act.put, List.setIfInBounds_toArray, List.set_cons_zero, List.set_cons_succ]
    iterate 2 (refine wpAnyH_take3 (b := 8) (by repeat (first | apply Seek.a | apply Seek.b | apply Seek.c)) (by simp only [List.getElem?_toArray, List.getElem?_cons_succ, List.getElem?_cons_zero]; first | done | exact rfl) ⟨?_, by kernel_rfl, by kernel_rfl, by kernel_rfl, fun _ _ _ h => h, Or.inl ⟨by rfl, ?_⟩, by assumption, ?_⟩; rotate_left 1; focus (intro w9 hSw; (try dsimp only at hSw); go_simp; try (with_reducible rfl)); try simp only [Act.put, List.setIfInBounds_toArray, List.set_cons_zero, List.set_cons_succ])
    refine wpAnyH_done (by kernel_rfl) ?_ _
    refine NoPanic.normal ?_
    go_wp2_with fail
    go_ret2
    have hlen : (d ++ Oct.putB s 2).length = n + 2 := by rw [List.length_append, hl, Oct.putB_length]
    refine ⟨A7, c7, by rw [hlen]; rfl, ?_, W7.out⟩
    rw [hlen, bcells_append]
    exact O7.out
end Go.Proofs.Ytpacdjkikbdkeaa
end

section
namespace Go.Proofs.Ytpacdjkikbdkeaa
set_option maxRecDepth 100000
set_option linter.unusedSimpArgs false
set_option linter.unusedVariables false
open Go.RowKit

set_option maxRecDepth 100000 in
set_option maxHeartbeats 4000000 in
theorem slices_Grow_nil (n : Nat) (w : World) (hn : n ≤ 1099511627776) :
    Calls Try.prog 65 #[.slice none 0 0, .int .i64 (n : Int)] w fun e w' => ∃ A2 c2, e = .returned (.slice A2 0 c2) ∧ Own w' w.heap.size 5 1 A2 0 c2 (bcells []) ∧ Below w.heap.size w w' := by
  obtain ⟨ti, hti, hz0, hz1, hz2⟩ := info_parts o_u8
  have n0 : ¬ (n : Int) < 0 := by omega
  rcases Nat.eq_zero_or_pos n with rfl | hpos
  · go_enter Try.func65, Try.ntmps65
    go_wp2_with fail
    go_ret
    exact ⟨none, 0, rfl, Own.none_ _ _ _ _ _, Below.refl _ _⟩
  · have n1 : (0 : Int) < (n : Int) := by omega
    have hG1 := grownCap_ge w n 0 5
    have hG2 := grownCap_le_maxLen w n 0 5 (by unfold maxLen; omega)
    have hrz : ∀ ty, (Builtin.append_ #[23, 3] ty #[.slice none 0 0, .int .i64 (n : Int)]).run Try.prog w = .ok (.slice (some ⟨w.heap.size, 0, none⟩) n (grownCap w n 0 5)) (w.drew.alloc (.cells (#[] ++ Builtin.zeroCells (Value.int .u8 0).cells n ++ Builtin.zeroCells (Value.int .u8 0).cells (grownCap w n 0 5 - n)) 5)) := fun ty => by
      have h := Lib.run_append_grow_zeros w 23 3 ty 5 ti _ .i64 .i64 Try.underlying23 Try.underlying3 hti hz0 none 0 0 [] (run_firstCells_none w.drew ti.size 0 0 0) n hpos (by rw [hz1]; omega) (by omega) (by omega) (by rw [hz2]; omega) (growslice_fits (by omega) (by rw [hz2]; omega))
      simpa using h
    generalize grownCap w n 0 5 = G at *
    have hG3 : G ≤ 9223372036854775807 := by unfold maxLen at hG2; omega
    have HB := Lib.hid (fun o => (Below.refl w.heap.size w).alloc (Nat.le_refl _) o)
    have HO : Own (w.alloc (.cells (Builtin.zeroCells #[Value.int .u8 0] n ++ Builtin.zeroCells #[Value.int .u8 0] (G - n)) 5)) w.heap.size 5 1 (some ⟨w.heap.size, 0, none⟩) 0 G (bcells []) := by
      have := Own.blk (s := 1) (n := 0) (c := G) (Blk.new w 5 (Builtin.zeroCells #[Value.int .u8 0] n ++ Builtin.zeroCells #[Value.int .u8 0] (G - n))) (Nat.le_refl _) (Nat.zero_le _) hG2 (by simp [Builtin.zeroCells]; omega) (by simp)
      simpa [bcells] using this
    have HO := Lib.hid HO
    go_enter Try.func65, Try.ntmps65
    go_wp2_with (at_builtin; refine Lib.wpList_append_run _ rfl _ _ _ _ rfl _ _ rfl rfl _ _ (hrz _) ?_)
    go_ret
    exact ⟨_, _, rfl, HO.out.drew, (HB.out _).drew⟩

set_option maxRecDepth 100000 in
set_option maxHeartbeats 4000000 in
theorem slices_Concat (A : Option Addr) (n c : Nat) (vs : List SV) (w : World) (h : Byts w w.heap.size A vs) (hn : vs.length = n) (hm : n ≤ 9223372036854775807) (ht : (joined vs).length ≤ 1099511627776) :
    Calls Try.prog 45 #[.slice A n c] w fun e w' => ∃ A2 c2, e = .returned (.slice A2 (joined vs).length c2) ∧ Own w' w.heap.size 5 1 A2 (joined vs).length c2 (bcells (joined vs)) ∧ Below w.heap.size w w' := by
  obtain ⟨ti, hti, hz0, hz1, hz2⟩ := info_parts o_u8
  have hl := Lib.hid hn
  clear hn
  go_enter Try.func45, Try.ntmps45
  go_wp2_with fail
  go_loopg [3, 11] n (fun g v i wr => ∃ k : Nat, k + g = n ∧ i = .int .i64 k ∧ v = .int .i64 ((joined (vs.take k)).length : Nat) ∧ w = wr)
  case atStart => exact ⟨0, by omega, rfl, rfl, rfl⟩
  case round =>
    obtain ⟨k, hk, rfl, rfl, rfl⟩ := hrel
    cases gk with
    | succ g =>
      have hkv : k < vs.length := by rw [hl.out]; omega
      obtain ⟨b, o, rfl, hc, hy⟩ := h.at_ hkv
      have jt := Lib.hid (joined_take vs k hkv)
      have j1 := joined_le vs (k + 1)
      rw [jt.out, List.length_append] at j1
      generalize vs[k] = x at *
      have p0 : (0 : Int) ≤ (k : Int) := by omega
      have p1 : (k : Int) < (n : Int) := by omega
      have j2 : x.bs.length = x.n := hy.1
      rw [j2] at j1
      have J2 := Lib.hid j2
      clear j2
      have j3 : (joined (vs.take k)).length + x.n ≤ 1099511627776 := by omega
      have j4 : ¬ (((joined (vs.take k)).length : Int) + (x.n : Int) < 0) := by omega
      clear j1
      have JJ : Hid ((joined (vs.take (k + 1))).length = (joined (vs.take k)).length + x.n) := by show _ = _; rw [jt.out, List.length_append, J2.out]
      generalize (joined (vs.take k)).length = m at *
      go_wp2_with fail
      go_roundg g
      case measure => omega
      case rel => exact ⟨k + 1, by omega, by go_num, by rw [JJ.out]; go_num, rfl⟩
    | zero =>
      obtain rfl : k = n := by omega
      have e1 : vs.take k = vs := List.take_of_length_le (by rw [hl.out]; omega)
      rw [e1]
      go_wp2_with (go_at_call 65; refine (slices_Grow_nil _ _ ht).mono ?_; rintro e w1 ⟨A1, c1, rfl, hown1, hb1⟩)
      go_loopg [6, 27] k (fun g v i wr => ∃ (j : Nat) (A2 : Option Addr) (m c2 : Nat), j + g = k ∧ i = .int .i64 j ∧ v = .slice A2 m c2 ∧ Hid (m = (joined (vs.take j)).length) ∧ Own wr w.heap.size 5 1 A2 m c2 (bcells (joined (vs.take j))) ∧ Below w.heap.size w wr)
      case atStart => exact ⟨0, A1, 0, c1, by omega, rfl, rfl, rfl, hown1, hb1⟩
      case round =>
        clear hown1 hb1
        obtain ⟨j, A2, m, c2, hj, rfl, rfl, hM, hown, hbw⟩ := hrel
        cases gk with
        | zero =>
          obtain rfl : j = k := by omega
          rw [e1] at hM hown
          go_wp2_with fail
          go_ret
          rw [← hM.out]
          exact ⟨A2, c2, rfl, hown, hbw⟩
        | succ g =>
          clear e1
          have hkv : j < vs.length := by rw [hl.out]; omega
          obtain ⟨b, o, rfl, hc, hy⟩ := (h.below hbw).at_ hkv
          have jt := Lib.hid (joined_take vs j hkv)
          have j1 := joined_le vs (j + 1)
          rw [jt.out, List.length_append] at j1
          generalize vs[j] = x at *
          have p0 : (0 : Int) ≤ (j : Int) := by omega
          have p1 : (j : Int) < (k : Int) := by omega
          have j2 : x.bs.length = x.n := hy.1
          have j3 : m + x.n ≤ 1099511627776 := by rw [hM.out, ← j2]; omega
          clear j1
          have J2 := Lib.hid j2
          clear j2
          go_wp2_with (at_builtin; refine wpList_append _ rfl (.tmp 31) (.tmp 32) 23 rfl w.heap.size 5 ti _ 1 1 Try.underlying23 hti hz0 hz1 hz2 rfl (by omega) A2 m c2 _ rfl hown w.heap.size x.a x.n x.c (bcells x.bs) rfl hy.2.2 (by rw [length_bcells, J2.out]; omega) (bcells_one _) (by unfold maxLen; omega) (by omega) hbw.size ?_; intro A3 c3 w4 hown4 hg4 hat4)
          go_roundg g
          case measure => omega
          case rel => exact ⟨j + 1, A3, _, c3, by omega, by go_num, rfl, by rw [jt.out, List.length_append, J2.out]; exact congrArg (· + x.n) hM.out, by rw [jt.out, bcells_append]; exact hown4, hown.grown hg4 hbw hbw.size⟩
end Go.Proofs.Ytpacdjkikbdkeaa
end

section
namespace Go.Proofs.Ytpacdjkikbdkeaa
set_option maxRecDepth 100000
set_option linter.unusedSimpArgs false
set_option linter.unusedVariables false
open Go.RowKit

structure Cal (w0 w : World) (L : List Ent) (O : List Osl) (Fs : List (Nat → Prop)) : Prop where
  mem : Mem (fun _ => False) w0 w L O
  lo : ∀ F ∈ Fs, ∀ q, F q → w0.heap.size ≤ q
  lt : ∀ F ∈ Fs, ∀ q, F q → q < w.heap.size
  dl : ∀ F ∈ Fs, ∀ e ∈ L, ¬ F e.g
  ds : ∀ F ∈ Fs, ∀ x ∈ O, ∀ q, ownAt x.A x.c = some q → ¬ F q
  df : Fs.Pairwise fun F G => ∀ q, F q → ¬ G q
section
variable {w0 w w' : World} {L L2 : List Ent} {O O2 : List Osl} {Fs : List (Nat → Prop)} {F F' : Nat → Prop}
theorem Cal.start (w0 : World) : Cal w0 w0 [] [] [] := ⟨Mem.nil _ _, fun F h => (by cases h), fun F h => (by cases h), fun F h => (by cases h), fun F h => (by cases h), .nil⟩
theorem Cal.low (h : Cal w0 w L O Fs) : Below w0.heap.size w0 w := h.mem.only.below (Nat.le_refl _) (fun _ _ e => e)
theorem Cal.size (h : Cal w0 w L O Fs) : w0.heap.size ≤ w.heap.size := h.low.size
/-- Behind steps of the caller's own. -/
theorem Cal.resync (h : Cal w0 w L O Fs) (hm : Mem (fun q => ∃ e ∈ L, q = e.g) w w' L2 O2) : Cal w0 w' L2 (O ++ O2) Fs :=
  { mem := h.mem.backO hm
    lo := h.lo
    lt := fun F hF q hq => Nat.lt_of_lt_of_le (h.lt F hF q hq) hm.only.size
    dl := fun F hF e he hq => by
      rcases hm.own e he with ⟨e2, he2, e3⟩ | h1
      · exact h.dl F hF e2 he2 (e3 ▸ hq)
      · have := h.lt F hF _ hq; omega
    ds := fun F hF x hx q hq hq2 => by
      rcases List.mem_append.1 hx with hx | hx
      · exact h.ds F hF x hx q hq hq2
      · rcases hm.slR x hx q hq with ⟨e2, he2, e3⟩ | h1
        · exact h.dl F hF e2 he2 (e3 ▸ hq2)
        · have := h.lt F hF _ hq2; omega
    df := h.df }
theorem Cal.rebase (h : Cal w0 w L O Fs) : Mem (fun q => ∃ e ∈ L, q = e.g) w w L [] := h.mem.rebase
/-- The caller's own steps leave an object alone. -/
theorem Cal.apart (h : Cal w0 w L O Fs) (k : Nat) (hk : Fs[k]? = some F) : ∀ q, F q → ¬ ∃ e ∈ L, q = e.g := fun q hq ⟨e, he, e2⟩ => h.dl F (List.mem_of_getElem? hk) e he (e2 ▸ hq)
/-- One object leaves another alone. -/
theorem Cal.other (h : Cal w0 w L O Fs) (i j : Nat) (hij : i ≠ j) {G : Nat → Prop} (hi : Fs[i]? = some F) (hj : Fs[j]? = some G) : ∀ q, F q → ¬ G q := fun q hq hg => by
  obtain ⟨h1, rfl⟩ := List.getElem?_eq_some_iff.1 hi
  obtain ⟨h2, rfl⟩ := List.getElem?_eq_some_iff.1 hj
  rcases Nat.lt_or_gt_of_ne hij with h3 | h3
  · exact List.pairwise_iff_getElem.1 h.df i j h1 h2 h3 q hq hg
  · exact List.pairwise_iff_getElem.1 h.df j i h2 h1 h3 q hg hq
theorem Cal.below (h : Cal w0 w L O Fs) (hb : Below w.heap.size w w') : Cal w0 w' L O Fs :=
  { h with mem := h.mem.below hb, lt := fun F hF q hq => Nat.lt_of_lt_of_le (h.lt F hF q hq) hb.size }
/-- A slice that a call has made. -/
theorem Cal.got {t : TypeId} {k : Nat} {A : Option Addr} {n c : Nat} {cs : List Value} (h : Cal w0 w L O Fs) (hb : Below w.heap.size w w') (hx : Own w' w.heap.size t k A n c cs) : Cal w0 w' L (O ++ [⟨t, k, A, n, c, cs⟩]) Fs :=
  { mem := h.mem.got hb hx, lo := h.lo, lt := fun F hF q hq => Nat.lt_of_lt_of_le (h.lt F hF q hq) hb.size, dl := h.dl
    ds := fun F hF x hm q hq hq2 => by
      rcases List.mem_append.1 hm with hm | hm
      · exact h.ds F hF x hm q hq hq2
      · obtain rfl := List.mem_singleton.1 hm
        have := (hx.lt q hq).1; have := h.lt F hF q hq2; omega
    df := h.df }
/-- A new object. -/
theorem Cal.born (h : Cal w0 w L O Fs) (hb : Below w.heap.size w w') (hF : ∀ q, F q → w.heap.size ≤ q) (hlt : ∀ q, F q → q < w'.heap.size) : Cal w0 w' L O (Fs ++ [F]) := by
  have h2 := h.below hb
  have hall : ∀ {p : (Nat → Prop) → Prop}, (∀ G ∈ Fs, p G) → p F → ∀ G ∈ Fs ++ [F], p G := fun {p} h0 h1 G hG => by
    rcases List.mem_append.1 hG with hG | hG
    · exact h0 G hG
    · obtain rfl := List.mem_singleton.1 hG; exact h1
  refine { mem := h2.mem, lo := hall h2.lo (fun q hq => Nat.le_trans h.size (hF q hq)), lt := hall h2.lt hlt, dl := hall h2.dl (fun e he hq => ?_), ds := hall h2.ds (fun x hx q e hq => ?_), df := ?_ }
  · have := h.mem.lt he; have := hF _ hq; omega
  · have := h.mem.slt hx e; have := hF _ hq; omega
  · rw [List.pairwise_append]
    refine ⟨h.df, List.pairwise_singleton _ _, fun G hG K hK q hq hq2 => ?_⟩
    obtain rfl := List.mem_singleton.1 hK
    have := h.lt G hG q hq; have := hF q hq2; omega
/-- A call of an object. -/
theorem Cal.turn (h : Cal w0 w L O Fs) (i : Nat) (hi : Fs[i]? = some F) (ho : Only F w w') (hF : ∀ q, F' q → F q ∨ w.heap.size ≤ q) (hlt : ∀ q, F' q → q < w'.heap.size) : Cal w0 w' L O (Fs.set i F') := by
  have hmem := List.mem_of_getElem? hi
  have hil := (List.getElem?_eq_some_iff.1 hi).1
  have hiF : Fs[i] = F := (List.getElem?_eq_some_iff.1 hi).2
  have hm : Mem (fun _ => False) w0 w' L O := h.mem.step ho (fun q hq hq2 => .inr (h.lo F hmem q hq2)) (fun e he hq => h.dl F hmem e he hq) (fun x hx q e hq => h.ds F hmem x hx q e hq)
  have hall : ∀ {p : (Nat → Prop) → Prop}, (∀ G ∈ Fs, p G) → p F' → ∀ G ∈ Fs.set i F', p G := fun {p} h0 h1 G hG => by
    rcases List.mem_or_eq_of_mem_set hG with hG | rfl
    · exact h0 G hG
    · exact h1
  refine { mem := hm, lo := hall h.lo (fun q hq => ?_), lt := hall (fun G hG q hq => Nat.lt_of_lt_of_le (h.lt G hG q hq) ho.size) hlt, dl := hall h.dl (fun e he hq => ?_), ds := hall h.ds (fun x hx q e hq => ?_), df := ?_ }
  · rcases hF q hq with h1 | h1
    · exact h.lo F hmem q h1
    · exact Nat.le_trans h.size h1
  · rcases hF _ hq with h1 | h1
    · exact h.dl F hmem e he h1
    · have := h.mem.lt he; omega
  · rcases hF _ hq with h1 | h1
    · exact h.ds F hmem x hx q e h1
    · have := h.mem.slt hx e; omega
  · rw [List.pairwise_iff_getElem]
    intro a b ha hb hab q hq hq2
    have ha' : a < Fs.length := by simpa using ha
    have hb' : b < Fs.length := by simpa using hb
    have hp := List.pairwise_iff_getElem.1 h.df
    rw [List.getElem_set] at hq hq2
    split at hq
    · rename_i hia
      rw [if_neg (by omega)] at hq2
      subst hia
      rcases hF q hq with h1 | h1
      · exact hp i b ha' hb' hab q (by rw [hiF]; exact h1) hq2
      · have := h.lt _ (List.getElem_mem hb') q hq2; omega
    · rename_i hia
      split at hq2
      · rename_i hib
        subst hib
        rcases hF q hq2 with h1 | h1
        · exact hp a i ha' hb' hab q hq (by rw [hiF]; exact h1)
        · have := h.lt _ (List.getElem_mem ha') q hq; omega
      · exact hp a b ha' hb' hab q hq hq2
/-- .. that hands back a slice of the caller's own. -/
theorem Cal.turned {t : TypeId} {k : Nat} {A : Option Addr} {n c : Nat} {cs : List Value} (h : Cal w0 w L O Fs) (i : Nat) (hi : Fs[i]? = some F) (ho : Only F w w') (hF : ∀ q, F' q → F q ∨ w.heap.size ≤ q) (hlt : ∀ q, F' q → q < w'.heap.size)
    (hx : Own w' w.heap.size t k A n c cs) (hd : ∀ q, F' q → ownAt A c ≠ some q) : Cal w0 w' L (O ++ [⟨t, k, A, n, c, cs⟩]) (Fs.set i F') := by
  have h2 := h.turn i hi ho hF hlt
  have hnew : ∀ q, ownAt A c = some q → w.heap.size ≤ q := fun q e => (hx.lt q e).1
  refine { mem := h2.mem.more (x := ⟨t, k, A, n, c, cs⟩) (hx.mono (Nat.zero_le _)) (fun q e => .inr (Nat.le_trans h.size (hnew q e))) (fun e he e1 => ?_) (fun y hy q e e1 => ?_), lo := h2.lo, lt := h2.lt, dl := h2.dl, ds := fun G hG x hm q e hq => ?_, df := h2.df }
  · have := hnew _ e1; have := h.mem.lt he; omega
  · have := hnew _ e1; have := h.mem.slt hy e; omega
  · rcases List.mem_append.1 hm with hm | hm
    · exact h2.ds G hG x hm q e hq
    · obtain rfl := List.mem_singleton.1 hm
      rcases List.mem_or_eq_of_mem_set hG with hG | rfl
      · have := hnew q e; have := h.lt G hG q hq; omega
      · exact hd q hq e
/-- Fewer variables, fewer slices. -/
theorem Cal.part (h : Cal w0 w L O Fs) (hL : L2.Sublist L) (hO : O2.Sublist O) : Cal w0 w L2 O2 Fs :=
  { mem := h.mem.part hL hO, lo := h.lo, lt := h.lt, dl := fun F hF e he => h.dl F hF e (hL.subset he), ds := fun F hF x hx => h.ds F hF x (hO.subset hx), df := h.df }
theorem Cal.takeL (h : Cal w0 w L O Fs) (k : Nat) : Cal w0 w (L.take k) O Fs := h.part (List.take_sublist _ _) (List.Sublist.refl _)
theorem Cal.takeO (h : Cal w0 w L O Fs) (k : Nat) : Cal w0 w L (O.take k) Fs := h.part (List.Sublist.refl _) (List.take_sublist _ _)
theorem Cal.byt {A : Option Addr} {n c : Nat} {t : TypeId} {bs : List UInt8} (h : Cal w0 w L O Fs) (k : Nat) (hk : O[k]? = some ⟨t, 1, A, n, c, bcells bs⟩) : Byt w w.heap.size A n c bs := (h.mem.sl_ k hk).byt (Nat.le_refl _)
end
end Go.Proofs.Ytpacdjkikbdkeaa
end

section
namespace Go.Proofs.Ytpacdjkikbdkeaa
set_option maxRecDepth 100000
set_option linter.unusedSimpArgs false
set_option linter.unusedVariables false
open Go.RowKit

theorem r01_u8 : (Try.prog.info? 5).map (fun i => (i.zero, i.size, i.bytes)) = some (some (.int .u8 0), 1, 1) := by kernel_rfl

set_option maxHeartbeats 1000000 in
theorem ref01_Join (A : Option Addr) (n c : Nat) (vs : List SV) (w : World) (h : Byts w w.heap.size A vs) (hn : vs.length = n) (hm : n ≤ 9223372036854775807) (ht : (joined vs).length ≤ 1099511627776) :
    Calls Try.prog 11 #[.slice A n c] w fun e w' => ∃ A2 c2, e = .returned (.slice A2 (joined vs).length c2) ∧ Own w' w.heap.size 5 1 A2 (joined vs).length c2 (bcells (joined vs)) ∧ Below w.heap.size w w' := by
  obtain ⟨i0, hi0, hz0, hz1, hz2⟩ := info_parts r01_u8
  have hl := Lib.hid hn
  clear hn
  go_enter Try.func11, Try.ntmps11
  go_wp2_with fail
  go_loopw [3, 4] (fun v i wr => ∃ (k : Nat) (A2 : Option Addr) (m c2 : Nat), k ≤ n ∧ i = .int .i64 k ∧ v = .slice A2 m c2 ∧ m = (joined (vs.take k)).length ∧ Own wr w.heap.size 5 1 A2 m c2 (bcells (joined (vs.take k))) ∧ Below w.heap.size w wr) (fun _ i _ => n - (intOf i).toNat)
  case atStart => exact ⟨0, none, 0, 0, by omega, rfl, rfl, rfl, Own.none_ _ _ _ _ _, Below.refl _ _⟩
  case round =>
    obtain ⟨k, A2, m, c2, hk, rfl, rfl, hm2, hown, hbw⟩ := hrel
    by_cases hlt : k < n
    · have hkv : k < vs.length := by rw [hl.out]; exact hlt
      obtain ⟨b, o, rfl, hc, hy⟩ := (h.below hbw).at_ hkv
      have jt := Lib.hid (joined_take vs k hkv)
      have j1 := joined_le vs (k + 1)
      rw [jt.out, List.length_append] at j1
      have hM := Lib.hid hm2
      clear hm2
      generalize vs[k] = x at *
      have p0 : (0 : Int) ≤ (k : Int) := by omega
      have p1 : (k : Int) < (n : Int) := by omega
      have j2 : x.bs.length = x.n := hy.1
      have j3 : m + x.n ≤ 1099511627776 := by rw [hM.out, ← j2]; omega
      clear j1
      have J2 := Lib.hid j2
      clear j2
      go_wp2_with (at_builtin; refine wpList_append _ rfl (.tmp 11) (.tmp 15) 23 rfl w.heap.size 5 i0 _ 1 1 Try.underlying23 hi0 hz0 hz1 hz2 rfl (by omega) A2 m c2 _ rfl hown w.heap.size x.a x.n x.c (bcells x.bs) rfl hy.2.2 (by rw [length_bcells, J2.out]; omega) (bcells_one _) (by unfold maxLen; omega) (by omega) hbw.size ?_; intro A3 c3 w4 hown4 hg4 hat4)
      go_roundw
      case rel => exact ⟨k + 1, A3, _, c3, by omega, by go_num, rfl, by rw [jt.out, List.length_append, hM.out, J2.out], by rw [jt.out, bcells_append]; exact hown4, hown.grown hg4 hbw hbw.size⟩
      case measure => simp [intOf]; omega
    · obtain rfl : k = n := by omega
      have e1 : vs.take k = vs := List.take_of_length_le (by rw [hl.out]; omega)
      rw [e1] at hm2 hown
      subst hm2
      go_wp2_with fail
      go_ret
      exact ⟨A2, c2, rfl, hown, hbw⟩
end Go.Proofs.Ytpacdjkikbdkeaa
end

section
namespace Go.Proofs.Ytpacdjkikbdkeaa
set_option maxRecDepth 100000
set_option linter.unusedSimpArgs false
set_option linter.unusedVariables false
open Go.RowKit Go.ChangeShapes Go.WideShapes Go.Deep

theorem bytes_of_trod {H : Type} {enc : TypeId × Value → H} {w : World} {base : Nat} {spare : Nat → Bool} {held : Bool} {A : Option Addr} {n c : Nat} {d : DataW H} {p : List MemPlace}
    (h : DataW.Trod enc Try.prog w base spare held 23 (.slice A n c) d p) : ∃ b, Byt w w.heap.size A n c b ∧ c ≤ maxLen := by
  obtain ⟨fuel, hf⟩ := h
  have hc : (Value.slice A n c).cells.toList = [.slice A n c] := rfl
  obtain ⟨A2, l2, c2, b, e, hb, hm⟩ := fbyt_of_trod (v := .slice A n c) Try.underlying23 Try.underlying5 (by kernel_rfl) hf
  injection e with e1 e2 e3
  subst e1 e2 e3
  exact ⟨b, hb, hm⟩
end Go.Proofs.Ytpacdjkikbdkeaa
end

section
namespace Go.Proofs.Ytpacdjkikbdkeaa
set_option maxRecDepth 100000
set_option linter.unusedSimpArgs false
set_option linter.unusedVariables false
open Go.RowKit Go.ChangeShapes Go.WideShapes Go.Deep

theorem weights_all {H : Type} {P : Program} {e : TypeId} {d : DataW H} {x : Nat} : ∀ {l : List (DataW H)}, d ∈ l → x ∈ DataW.weights P e d → x ∈ DataW.weightsAll P e l
  | [], hd, _ => by cases hd
  | y :: l, hd, hx => by
    simp only [DataW.weightsAll, List.mem_append]
    rcases List.mem_cons.1 hd with rfl | h
    · exact .inl hx
    · exact .inr (weights_all h hx)
theorem bss_of_trod {H : Type} {enc : TypeId × Value → H} {w : World} {base : Nat} {held : Bool} {A : Option Addr} {n c : Nat} {d : DataW H} {p : List MemPlace}
    (h : DataW.Trod enc Try.prog w base (fun _ => true) held 85 (.slice A n c) d p) (hsz : ∀ x ∈ DataW.weights Try.prog 85 d, x ≤ reachBytes) : ∃ vs : List SV, (vs.length = n ∧ Byts w w.heap.size A vs ∧ n ≤ c ∧ ∀ v ∈ vs, v.c ≤ 140737488351232) ∧ c ≤ maxLen := by
  obtain ⟨fuel, hf⟩ := h
  rcases open_int_rows Try.underlying85 Try.underlying23 Try.underlying5 (by kernel_rfl) (by kernel_rfl) hf with ⟨hcs, _⟩ | ⟨a, len, cap, X, L, C, Z, hcs, _, hl, hm, hdp, hr⟩
  · simp [Value.cells] at hcs
    obtain ⟨rfl, rfl, rfl⟩ := hcs
    exact ⟨[], ⟨rfl, ⟨Row.nil _ _ _, fun v hv => (by cases hv)⟩, Nat.le_refl _, fun v hv => (by cases hv)⟩, Nat.zero_le _⟩
  · simp [Value.cells] at hcs
    obtain ⟨rfl, rfl, rfl⟩ := hcs
    have hd : d = .slice ((List.range n).map fun r => intRow .u8 (X r) (L r) (Z r)) ((List.range (c - n)).map fun j => intRow .u8 (X (n + j)) (L (n + j)) (Z (n + j))) := by
      injection hdp
    have hbyt : (Try.prog).bytesOf 5 = 1 := by kernel_rfl
    have key : ∀ r, r < n → ∃ v : SV, w.cell? (a.add r) = some (.slice v.a v.n v.c) ∧ Byt w w.heap.size v.a v.n v.c v.bs ∧ v.c ≤ 140737488351232 := fun r hrn => by
      obtain ⟨h1, h2, h3, h4, h5, h6, h7⟩ := hr r (by omega)
      have hcr : C r ≤ 140737488351232 := by
        cases hx : X r with
        | none => have := h6 hx; omega
        | some a' =>
          have hw : C r ∈ DataW.weights (H := H) Try.prog 23 (intRow .u8 (X r) (L r) (Z r)) := by
            rw [hx]
            simp only [intRow, DataW.weights, Try.underlying23, hbyt, Nat.mul_one]
            refine List.mem_cons.2 (.inl ?_)
            simp only [lits, List.length_map, List.length_take, List.length_drop]
            omega
          have hin : C r ∈ DataW.weights (H := H) Try.prog 85 d := by
            rw [hd]
            simp only [DataW.weights, Try.underlying85]
            refine List.mem_cons.2 (.inr (List.mem_append.2 (.inl (weights_all (List.mem_map.2 ⟨r, List.mem_range.2 hrn, rfl⟩) hw))))
          have := hsz _ hin
          simp only [reachBytes] at this
          omega
      have : ∃ bs, Byt w w.heap.size (X r) (L r) (C r) bs ∧ C r ≤ maxLen := by
        refine byt_of_row (zs := Z r) ?_
        cases hx : X r with
        | none =>
          have hc0 := h6 hx
          exact .inl ⟨rfl, by omega, hc0, List.eq_nil_of_length_eq_zero (by rw [h4]; exact hc0)⟩
        | some a' =>
          obtain ⟨_, h8⟩ := h7 a' hx
          exact .inr ⟨a', rfl, h2, h3, h4, fun i hi => h8 i (by omega), h5⟩
      obtain ⟨bs, hb, _⟩ := this
      exact ⟨⟨X r, L r, C r, bs⟩, h1, hb, hcr⟩
    obtain ⟨f, hf⟩ := @choose_lt _ ⟨(⟨none, 0, 0, []⟩ : SV)⟩ n _ key
    refine ⟨(List.range n).map f, ⟨by simp, ⟨fun hn => ?_, fun v hv => ?_⟩, hl, fun v hv => ?_⟩, hm⟩
    · have hn0 : 0 < n := by simpa using hn
      obtain ⟨b, o, rfl, hb⟩ := spot_none ((hf 0 hn0).1)
      refine ⟨b, o, rfl, hb, fun j hj => ?_⟩
      have hjn : j < n := by simpa using hj
      have := (hf j hjn).1
      rw [add_eq] at this
      rw [this]
      simp [hjn, SV.val]
    · obtain ⟨r, hr2, rfl⟩ := List.mem_map.1 hv
      exact (hf r (List.mem_range.1 hr2)).2.1
    · obtain ⟨r, hr2, rfl⟩ := List.mem_map.1 hv
      exact (hf r (List.mem_range.1 hr2)).2.2
end Go.Proofs.Ytpacdjkikbdkeaa
end
