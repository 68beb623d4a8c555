/-
  The journal: decode.
-/
import Derived.Test.YtmhjddmamknglaaGreatJnI
namespace Go.Proofs.YtmhjddmamknglaaGreat
set_option maxRecDepth 100000
set_option linter.unusedSimpArgs false
set_option linter.unusedVariables false
open Go.RowKit
set_option maxHeartbeats 8000000

theorem Mth.enterB {w0 : World} {A : Option Addr} {n c : Nat} {bs : List UInt8} (h : Byt w0 w0.heap.size A n c bs) : Mth (fun _ => False) w0 w0 [] [] [] [⟨blks #[.slice A n c], fun u => Byt u u.heap.size A n c bs⟩] :=
  Mth.enter w0 _ _ _ (fun x hx => by cases hx) .nil (fun x hx => by cases hx) (fun x hx => by
    obtain rfl := List.mem_singleton.1 hx
    exact ⟨bytSup h, fun y hy => by cases hy⟩)
theorem byt_slice {w : World} {B ab ao n c : Nat} {bs : List UInt8} (h : Byt w B (some ⟨ab, ao, none⟩) n c bs) (i j c' : Nat) (hij : i + j ≤ n) (hc : j ≤ c') : Byt w B (some ⟨ab, ao + i, none⟩) j c' ((bs.drop i).take j) := by
  refine ⟨by rw [List.length_take, List.length_drop, h.1]; omega, hc, ?_⟩
  have h1 : Row w B (some ⟨ab, ao + i, none⟩) ((bcells bs).drop i) := Row.drop h.2.2 i
  have h2 := Row.take h1 j
  have h3 : bcells ((bs.drop i).take j) = ((bcells bs).drop i).take j := by rw [bcells, List.map_take, List.map_drop]; rfl
  rw [h3]; exact h2
theorem byt_nil {w : World} {B : Nat} {A : Option Addr} {c : Nat} : Byt w B A 0 c [] := ⟨rfl, Nat.zero_le _, Row.nil _ _ _⟩
/-- What decode has found so far. -/
def JC.cellsL (l : List JC) : List Value := l.flatMap JC.cells
theorem JC.cellsL_snoc (l : List JC) (y : JC) : JC.cellsL (l ++ [y]) = JC.cellsL l ++ JC.cells y := by simp [JC.cellsL]
theorem JC.cellsL_length (l : List JC) : (JC.cellsL l).length = l.length * 2 := by
  induction l with
  | nil => rfl
  | cons y l ih =>
    have e : JC.cellsL (y :: l) = JC.cells y ++ JC.cellsL l := by simp [JC.cellsL]
    rw [e, List.length_append, ih, List.length_cons]
    simp [JC.cells]; omega
theorem dropA (a r : List UInt8) (n k : Nat) (h : a.length = n) : (a ++ r).drop (n + k) = r.drop k := by
  subst h
  rw [List.drop_append]
  simp
theorem takeA (a r : List UInt8) (n : Nat) (h : a.length = n) : (a ++ r).take n = a := by
  subst h
  simp
theorem enc_parts (x : Jn.C) (r : List UInt8) (ho : x.off < 281474976710656) (hd : x.data.length < 65536) : Jn.num ((Jn.encC x ++ r).take 6) = x.off ∧ Jn.num (((Jn.encC x ++ r).drop 6).take 2) = x.data.length ∧ (((Jn.encC x ++ r).drop 8).take x.data.length) = x.data ∧ (Jn.encC x ++ r).drop (8 + x.data.length) = r := by
  have l1 := Jn.bytesOf_length x.off 6
  have l2 := Jn.bytesOf_length x.data.length 2
  have e : Jn.encC x ++ r = Jn.bytesOf x.off 6 ++ (Jn.bytesOf x.data.length 2 ++ (x.data ++ r)) := by simp [Jn.encC]
  rw [e]
  refine ⟨?_, ?_, ?_, ?_⟩
  · rw [takeA _ _ 6 l1]
    exact Jn.num_bytesOf_lt (by omega)
  · rw [show (6 : Nat) = 6 + 0 by rfl, dropA _ _ 6 0 l1, List.drop_zero, takeA _ _ 2 l2]
    exact Jn.num_bytesOf_lt (by omega)
  · rw [show (8 : Nat) = 6 + 2 by rfl, dropA _ _ 6 2 l1, show (2 : Nat) = 2 + 0 by rfl, dropA _ _ 2 0 l2, List.drop_zero, takeA _ _ _ rfl]
  · rw [show 8 + x.data.length = 6 + (2 + x.data.length) by omega, dropA _ _ 6 _ l1, dropA _ _ 2 _ l2, show x.data.length = x.data.length + 0 by rfl, dropA _ _ _ 0 rfl, List.drop_zero]
end Go.Proofs.YtmhjddmamknglaaGreat
