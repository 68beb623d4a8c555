/-
  Lists of commands; the walk of copied.
-/
import Derived.Test.YtapfiapjefnjjaaApdH
import Derived.Test.YtapfiapjefnjjaaByts
namespace Go.Proofs.Ytapfiapjefnjjaa
set_option linter.unusedSimpArgs false
open Go.RowKit

/-- A command. -/
structure Apd.Cmd where
  cla : Int
  ins : Int
  p1 : Int
  p2 : Int
  d : List UInt8
  le : Int
  long : Bool
/-- A command as it lies in memory. -/
structure CV where
  cla : Int
  ins : Int
  p1 : Int
  p2 : Int
  d : SV
  le : Int
  long : Bool
def CV.cells (x : CV) : List Value := [I64 x.cla, I64 x.ins, I64 x.p1, I64 x.p2, x.d.val, I64 x.le, .bool x.long]
def CV.cmd (x : CV) : Apd.Cmd := ⟨x.cla, x.ins, x.p1, x.p2, x.d.bs, x.le, x.long⟩
def ccells (l : List CV) : List Value := l.flatMap CV.cells
theorem ccells_append (a b : List CV) : ccells (a ++ b) = ccells a ++ ccells b := by simp [ccells]
theorem ccells_one (x : CV) : ccells [x] = x.cells := by simp [ccells]
theorem length_ccells (l : List CV) : (ccells l).length = 7 * l.length := by
  induction l with
  | nil => rfl
  | cons x l ih =>
    rw [show x :: l = [x] ++ l from rfl, ccells_append, List.length_append, ih, ccells_one, List.length_append]
    show 7 + _ = _
    simp; omega
theorem CV.ones (x : CV) : ∀ u ∈ x.cells, u.oneCell' = true := by
  intro u hu
  simp only [CV.cells, SV.val, List.mem_cons, List.not_mem_nil, or_false] at hu
  rcases hu with rfl | rfl | rfl | rfl | rfl | rfl | rfl <;> simp [Value.oneCell']
/-- A slice of commands. -/
def Cmds (w : World) (B : Nat) (A : Option Addr) (vs : List CV) : Prop := Row w B A (ccells vs) ∧ ∀ v ∈ vs, Byt w B v.d.a v.d.n v.d.c v.d.bs
theorem Cmds.below {w w' : World} {B : Nat} {A : Option Addr} {vs : List CV} (h : Cmds w B A vs) (hb : Below B w w') : Cmds w' B A vs := ⟨h.1.below hb, fun v hv => (h.2 v hv).below hb⟩
theorem Cmds.more {w : World} {B B' : Nat} {A : Option Addr} {vs : List CV} (h : Cmds w B A vs) (hB : B ≤ B') : Cmds w B' A vs := ⟨h.1.more hB, fun v hv => (h.2 v hv).more hB⟩
/-- What Chain leaves. -/
def ChRes (w : World) (l : List Apd.Cmd) (er : Int) (e : Ending) (w' : World) : Prop :=
  ∃ (A : Option Addr) (c : Nat) (vs : List CV), e = .returned (.tuple #[.slice A l.length c, .int .i64 er]) ∧ vs.map CV.cmd = l ∧ Cmds w' w'.heap.size A vs ∧ Below w.heap.size w w'

/-- The error of Chain. -/
def Apd.chE (x : Apd.Cmd) (n : Int) : Int :=
  if Apd.chk x.cla x.ins x.p1 x.p2 x.d.length x.le x.long ≠ 0 then Apd.chk x.cla x.ins x.p1 x.p2 x.d.length x.le x.long
  else if n < 1 ∨ 255 < n then 1 else if ¬ (Apd.cok x.cla = true ∧ x.cla / 16 % 2 ≠ 1) then 4 else 0
def Apd.pcs (x : Apd.Cmd) (m : Nat) : List (List UInt8) := if x.d.length ≤ m then [x.d] else Oct.split x.d m
def Apd.mid (x : Apd.Cmd) (b : List UInt8) : Apd.Cmd := ⟨x.cla + 16, x.ins, x.p1, x.p2, b, 0, false⟩
def Apd.fin (x : Apd.Cmd) (b : List UInt8) : Apd.Cmd := ⟨x.cla, x.ins, x.p1, x.p2, b, x.le, x.long⟩
/-- The commands of a chain with these pieces of data. -/
def Apd.lst (x : Apd.Cmd) : List (List UInt8) → List Apd.Cmd
  | [] => []
  | [b] => [Apd.fin x b]
  | b :: c :: l => Apd.mid x b :: Apd.lst x (c :: l)
def Apd.chL (x : Apd.Cmd) (n : Int) : List Apd.Cmd := if Apd.chE x n = 0 then Apd.lst x (Apd.pcs x n.toNat) else []
theorem Apd.lst_snoc (x : Apd.Cmd) (l : List (List UInt8)) (b : List UInt8) : Apd.lst x (l ++ [b]) = l.map (Apd.mid x) ++ [Apd.fin x b] := by
  induction l with
  | nil => rfl
  | cons a l ih =>
    cases l with
    | nil => rfl
    | cons a2 l2 => rw [List.cons_append, List.cons_append, Apd.lst, ← List.cons_append, ih]; rfl

theorem own_cell_ne {w : World} {b g : Nat} {t t' : TypeId} {A : Option Addr} {n c : Nat} {cs : List Value} {old : Array Value} (h : Own w b t 1 A n c cs) (hB : Blk w g t' old) (hne : t ≠ t') (i : Nat) (v : Value) : Own (w.setCell ⟨g, i, none⟩ v) b t 1 A n c cs :=
  ⟨h.1, h.2.1, h.2.2.1, fun hc => by
    obtain ⟨g2, cur, e, hg, hh, r⟩ := h.2.2.2 hc
    refine ⟨g2, cur, e, hg, ?_, r⟩
    have hgg : g2 ≠ g := fun e2 => by
      subst e2
      unfold Blk at hB
      rw [hh] at hB
      injection hB with hB
      injection hB with _ h2 _
      exact hne h2
    exact Blk.far hh hgg v⟩

set_option maxRecDepth 100000 in
set_option maxHeartbeats 4000000 in
theorem apdu_copied (cla ins p1 p2 : Int) (A : Option Addr) (n c : Nat) (b : List UInt8) (le : Int) (long : Bool) (w : World) (h : Byt w w.heap.size A n c b) (hn : n ≤ 1000000) :
    Calls Try.prog 53 #[cmdV cla ins p1 p2 A n c le long] w fun e w' => ∃ A2 c2, e = .returned (cmdV cla ins p1 p2 A2 n c2 le long) ∧ Own w' w.heap.size 5 1 A2 n c2 (bcells b) ∧ Below w.heap.size w w' := by
  have HBB := Lib.hid (fun o o' => ((Below.refl w.heap.size w).alloc (Nat.le_refl _) o).alloc (by simp) o')
  have HY := Lib.hid h
  clear h
  unfold cmdV
  go_enter Try.func53, Try.ntmps53
  go_wp2_with fail
  go_at_call 50
  refine (slices_Clone A n c b _ (by exact (HY.out.below (HBB.out _ _)).more (HBB.out _ _).size) (by omega)).mono ?_
  rintro e w5 ⟨A5, c5, rfl, ho, hb5⟩
  obtain ⟨B1, B2, hbw⟩ := blk_of_two hb5
  have HB1 := Lib.hid (B1.set 4 (.slice A5 n c5))
  have HB2 := Lib.hid (B2.far (p := ⟨w.heap.size, 4, none⟩) (by simp) (.slice A5 n c5))
  have hne := own_ge ho
  have HW := Lib.hid (Below.setCell (p := ⟨w.heap.size, 4, none⟩) hbw (Nat.le_refl _) (.slice A5 n c5))
  have hfz := B1.frozen 4
  have hcl := B1.cell 4
  have HO := Lib.hid (own_cell_ne ho B1 (by decide) 4 (.slice A5 n c5))
  clear B1 B2 hbw ho hne hb5 HY
  go_wp2_with (first
    | ((with_reducible show wpList _ _ _ (Oper.mk _ (Op.load 24 (Operand.tmp 1)) _ _ _ _ :: _) _ _); refine wpList_load_row rfl 24 (.tmp 1) rfl w.heap.size rfl 24 #[I64 cla, I64 ins, I64 p1, I64 p2, .slice A5 n c5, I64 le, .bool long] (0, 0) _ (by exact HB1.out) Try.underlying24 rfl (by kernel_rfl) ?_)
    | ((with_reducible show wpList _ _ _ (Oper.mk _ (Op.store 24 (Operand.tmp 2) (Operand.tmp 7)) _ _ _ _ :: _) _ _); refine wpList_store_row rfl 24 (.tmp 2) (.tmp 7) rfl (w.heap.size + 1) #[I64 cla, I64 ins, I64 p1, I64 p2, .slice A5 n c5, I64 le, .bool long] rfl rfl 24 _ HB2.out (by kernel_rfl) rfl (cmd_one _ _ _ _ _ _ _ _ _) ?_))
  refine bodyPost_ret (results_cell_row rfl _ _ (w.heap.size + 1) 24 _ (0, 0) _ rfl (by exact HB2.out.setRow _) Try.underlying24 rfl (by kernel_rfl)) rfl ⟨A5, c5, rfl, ?_, by exact Below.setRow HW.out (Nat.le_succ _) _⟩
  exact (HO.out.setRow_ne HB2.out (by decide) _).mono (HBB.out _ _).size
end Go.Proofs.Ytapfiapjefnjjaa
