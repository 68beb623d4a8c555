/-
  The pages of a memory, in plain mathematics: what the functions compute. Nothing here names a program.
-/
import Derived.Test.YtnlhammgcemchaaZ0
namespace Go.Proofs.Ytnlhammgcemchaa.Pg
set_option maxRecDepth 100000
set_option linter.unusedSimpArgs false
set_option linter.unusedVariables false
open Go.Proofs.Ytnlhammgcemchaa

/-- A word of the memory: its data, whether it is right, and how many words were fixed. -/
def word (m : Cel.Mem) (a : Nat) : Nat × Bool × Nat :=
  if (m.read a).2 ≠ 0 then (0, false, 0)
  else ((Ecc.decode (m.read a).1.toNat).1, decide ((Ecc.decode (m.read a).1.toNat).2 ≠ 2), if (Ecc.decode (m.read a).1.toNat).2 = 1 then 1 else 0)
/-- The first k words of a frame. -/
def rdK (m : Cel.Mem) (f : Nat) : Nat → List Nat × Bool × Nat
  | 0 => ([], true, 0)
  | k + 1 => if (rdK m f k).2.1 then (if (word m (f * 20 + k)).2.1 then ((rdK m f k).1 ++ [(word m (f * 20 + k)).1], true, (rdK m f k).2.2 + (word m (f * 20 + k)).2.2) else ([], false, (rdK m f k).2.2 + (word m (f * 20 + k)).2.2)) else ([], false, (rdK m f k).2.2)
def mix (h n : Nat) : Nat :=
  let x := ((h ^^^ n) * 3083085 + 79225) % 16777216
  x ^^^ x / 2048
def sealK (l : List Nat) (h : Nat) : Nat := l.foldl mix h
def sealOf (l : List Nat) : Nat := sealK l 5904323 ||| 1
def read (m : Cel.Mem) (f : Nat) : List Nat × Bool × Nat :=
  if (rdK m f 19).2.1 then ((rdK m f 19).1, (word m (f * 20 + 19)).2.1 && ((word m (f * 20 + 19)).1 == sealOf (rdK m f 19).1), (rdK m f 19).2.2 + (word m (f * 20 + 19)).2.2) else ([], false, (rdK m f 19).2.2)
structure Hd where
  page : Option Nat
  version : Nat
  bad : Bool
def header (m : Cel.Mem) (count f : Nat) : Hd × Nat :=
  if (word m (f * 20 + 19)).2.1 = true ∧ (word m (f * 20 + 19)).1 = 0 then (⟨none, 0, false⟩, (word m (f * 20 + 19)).2.2)
  else if (read m f).2.1 = false ∨ count ≤ (read m f).1.getD 16 0 then (⟨none, 0, true⟩, (word m (f * 20 + 19)).2.2 + (read m f).2.2)
  else (⟨some ((read m f).1.getD 16 0), (read m f).1.getD 17 0 * 16777216 + (read m f).1.getD 18 0, false⟩, (word m (f * 20 + 19)).2.2 + (read m f).2.2)
/-- A frame or a page, or none (-1 in the memory). -/
def enc : Option Nat → Int
  | none => -1
  | some n => n
/-- Pages. -/
structure P where
  m : Cel.Mem
  cuts : Int
  count : Nat
  frames : Nat
  version : Nat
  turn : Nat
  at_ : List (Option Nat)
  holds : List (Option Nat)
  freed : List Nat
  fixed : Nat
def P.more (p : P) (c : Nat) : P := { p with fixed := p.fixed + c }
def P.alive (p : P) : Bool := !p.m.off && (p.m.cuts == p.cuts)
def P.failure (p : P) : Int := if p.alive then 9 else 7
def three (n : Nat) : List UInt8 := [UInt8.ofNat (n / 65536), UInt8.ofNat (n / 256), UInt8.ofNat n]
def zero48 : List UInt8 := List.replicate 48 0
def P.content (p : P) (i : Nat) : List UInt8 × Int × Nat :=
  match p.at_.getD i none with
  | none => (zero48, 0, 0)
  | some f => if (Pg.read p.m f).2.1 then (((Pg.read p.m f).1.take 16).flatMap three, 0, (Pg.read p.m f).2.2) else ([], p.failure, (Pg.read p.m f).2.2)
def P.access (p : P) (i : Int) : Int := if p.alive = false then 7 else if i < 0 ∨ p.count ≤ i then 2 else 0
def P.read (p : P) (i : Int) : P × List UInt8 × Int :=
  if p.access i ≠ 0 then (p, [], p.access i) else (p.more (p.content i.toNat).2.2, (p.content i.toNat).1, (p.content i.toNat).2.1)
/-- The words of 48 bytes. -/
def words (b : List UInt8) : List Nat := (List.range 16).map fun k => (b.getD (3 * k) 0).toNat * 65536 + (b.getD (3 * k + 1) 0).toNat * 256 + (b.getD (3 * k + 2) 0).toNat
def frameWords (i v : Nat) (b : List UInt8) : List Nat := words b ++ [i, v / 16777216, v % 16777216]
/-- What is written, one after the other: the number of the word in its frame, and its datum. -/
def plan (l : List Nat) : List (Nat × Nat) := (19, 0) :: ((List.range l.length).map fun k => (k, l.getD k 0)) ++ [(19, sealOf l)]
/-- Writes into frame f until one fails. -/
def put (f : Nat) : List (Nat × Nat) → Cel.Mem → Cel.Mem × Int
  | [], m => (m, 0)
  | x :: l, m => if (m.write (f * 20 + x.1 : Nat) (UInt32.ofNat (Ecc.code x.2))).2 ≠ 0 then m.write (f * 20 + x.1 : Nat) (UInt32.ofNat (Ecc.code x.2)) else put f l (m.write (f * 20 + x.1 : Nat) (UInt32.ofNat (Ecc.code x.2))).1
/-- Pages whose page i has moved to frame f. -/
def P.moved (p : P) (i f : Nat) (m : Cel.Mem) : P :=
  { p with m := m, version := p.version + 1, freed := p.freed.drop 1 ++ (p.at_.getD i none).toList, holds := (match p.at_.getD i none with | none => p.holds | some old => p.holds.set old none).set f (some i), at_ := p.at_.set i (some f) }
def P.place (p : P) (i : Nat) (b : List UInt8) : P × Int :=
  if (put (p.freed.getD 0 0) (plan (frameWords i (p.version + 1) b)) p.m).2 ≠ 0 then ({ p with m := (put (p.freed.getD 0 0) (plan (frameWords i (p.version + 1) b)) p.m).1 }, (put (p.freed.getD 0 0) (plan (frameWords i (p.version + 1) b)) p.m).2)
  else (p.moved i (p.freed.getD 0 0) (put (p.freed.getD 0 0) (plan (frameWords i (p.version + 1) b)) p.m).1, 0)
def P.turned (p : P) : P := { p with turn := (p.turn + 1) % p.frames }
def P.move (p : P) : P × Int :=
  match p.holds.getD p.turn none with
  | none => (p.turned, 0)
  | some i => if (p.content i).2.1 ≠ 0 then (p.turned.more (p.content i).2.2, (p.content i).2.1) else (p.turned.more (p.content i).2.2).place i (p.content i).1
def P.write (p : P) (i : Int) (b : List UInt8) : P × Int :=
  if b.length ≠ 48 then (p, 1) else if p.access i ≠ 0 then (p, p.access i) else if p.move.2 ≠ 0 then p.move else p.move.1.place i.toNat b
/-! Open. -/
structure O where
  p : P
  vs : List Nat
/-- One header. -/
def O.next (o : O) (f : Nat) (h : Hd) : O :=
  match h.page with
  | none => { o with vs := o.vs.set f h.version }
  | some i =>
    match o.p.at_.getD i none with
    | none => { p := { o.p with version := max o.p.version h.version, holds := o.p.holds.set f (some i), at_ := o.p.at_.set i (some f) }, vs := o.vs.set f h.version }
    | some old => if h.version < (o.vs.set f h.version).getD old 0 then { p := { o.p with version := max o.p.version h.version }, vs := o.vs.set f h.version }
      else { p := { o.p with version := max o.p.version h.version, holds := (o.p.holds.set old none).set f (some i), at_ := o.p.at_.set i (some f) }, vs := o.vs.set f h.version }
def O.more (o : O) (c : Nat) : O := { o with p := { o.p with fixed := o.p.fixed + c } }
/-- The first k headers; none: one of them is bad. -/
def scan (m : Cel.Mem) (o : O) : Nat → Option O
  | 0 => some o
  | k + 1 => match scan m o k with
    | none => none
    | some q => if (header m o.p.count k).1.bad then none else some ((q.more (header m o.p.count k).2).next k (header m o.p.count k).1)
def start (m : Cel.Mem) : O := ⟨⟨m, m.cuts, m.words.length / 24, m.words.length / 20, 0, 0, List.replicate (m.words.length / 24) none, List.replicate (m.words.length / 20) none, [], 0⟩, List.replicate (m.words.length / 20) 0⟩
/-- The newest frame among the first k. -/
def newest (vs : List Nat) : Nat → Nat
  | 0 => 0
  | k + 1 => if vs.getD (newest vs k) 0 < vs.getD k 0 then k else newest vs k
def frees (holds : List (Option Nat)) : List Nat := (List.range holds.length).filter fun f => (holds.getD f none).isNone
/-- What Open hands out: the free frames in some order. -/
def Opened (m : Cel.Mem) (p : P) : Prop := ∃ o, scan m (start m) (m.words.length / 20) = some o ∧ ∃ fr, fr.Perm (frees o.p.holds) ∧ p = { o.p with freed := fr, turn := (newest o.vs o.p.frames + 1) % o.p.frames }
end Go.Proofs.Ytnlhammgcemchaa.Pg
