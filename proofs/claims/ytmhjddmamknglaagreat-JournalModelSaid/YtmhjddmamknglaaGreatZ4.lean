/-
  The texts that the claims of this seat lean on, part 5.
-/
import Derived.Test.YtmhjddmamknglaaGreatZ3
import Derived.Test.YtmhjddmamknglaaGreatRows
import Derived.Test.YtmhjddmamknglaaGreatZ0
import Derived.Lib.OthersKept
import Derived.Laws.RangeAny
import Derived.Laws.BitsAllLaws
import Derived.Deep.LoopGhost
import Derived.Outline
import Derived.Lib.AppendZerosOnto
import Derived.Maps.Own
import Derived.Laws.ResultCell
import Derived.Laws.Rows

section
namespace Go.Proofs.YtmhjddmamknglaaGreat
set_option maxRecDepth 100000
set_option linter.unusedSimpArgs false
set_option linter.unusedVariables false
open Go.RowKit Go.ChangeShapes Go.WideShapes Go.Deep

/-- The types of a struct's cells, field by field, from a place on. -/
def flatFs (P : Program) (F : TypeId → Option (List TypeId)) : List Field → Nat → Option (List TypeId)
  | [], _ => some []
  | f :: r, off => match F f.type with
    | none => none
    | some a => if f.offset = off ∧ P.cellsOf f.type = a.length then (match flatFs P F r (off + a.length) with
      | none => none
      | some b => some (a ++ b)) else none
/-- The types of a value's cells. -/
def flat (P : Program) : Nat → TypeId → Option (List TypeId)
  | 0, _ => none
  | k + 1, t => match P.underlying t with
    | some (.struct fs) => (match flatFs P (flat P k) fs.toList 0 with
      | none => none
      | some ts => if P.cellsOf t = ts.length then some ts else none)
    | some _ => if P.cellsOf t = 1 then some [t] else none
    | none => none

section
variable {H : Type} {enc : TypeId × Value → H} {P : Program} {w : World} {base : Nat} {spare : Nat → Bool} {held : Bool}
/-- What is read of a cell. -/
def CellRead (enc : TypeId × Value → H) (P : Program) (w : World) (base : Nat) (spare : Nat → Bool) (held : Bool) (t : TypeId) (d : DataW H) (v : Value) (T : TypeId) : Prop :=
  ∃ (y : DataW H × List MemPlace) (n : Nat), DataW.trod enc P w base spare held n T [v] = some y ∧ ∀ z ∈ DataW.weights P T y.1, z ∈ DataW.weights P t d
theorem flatFs_read {F : TypeId → Option (List TypeId)} {t : TypeId} {fs : Array Field} {cs : List Value} {xs : List (DataW H × List MemPlace)} {n : Nat} (ht : P.underlying t = some (.struct fs)) (hlen : xs.length = fs.size)
    (hF : ∀ T a, F T = some a → ∀ (cs : List Value) (x : DataW H × List MemPlace), cs.length = P.cellsOf T → DataW.trod enc P w base spare held n T cs = some x → ∀ (i : Nat) (U : TypeId), a[i]? = some U → ∃ v, cs[i]? = some v ∧ CellRead enc P w base spare held T x.1 v U)
    (hf : ∀ (i : Nat) (f : Field), fs[i]? = some f → DataW.trod enc P w base spare held n f.type ((cs.drop f.offset).take (P.cellsOf f.type)) = xs[i]?) :
    ∀ (r : List Field) (j off : Nat) (b : List TypeId), fs.toList.drop j = r → flatFs P F r off = some b → off + b.length ≤ cs.length → ∀ (i : Nat) (U : TypeId), b[i]? = some U → ∃ v, cs[off + i]? = some v ∧ CellRead enc P w base spare held t (.agg (xs.map (·.1))) v U := by
  intro r
  induction r with
  | nil =>
    intro j off b _ hb _ i U hi
    simp only [flatFs] at hb
    injection hb with hb
    subst hb
    simp at hi
  | cons f r ih =>
    intro j off b hj hb hle i U hi
    simp only [flatFs] at hb
    cases ha : F f.type with
    | none => rw [ha] at hb; cases hb
    | some a =>
      rw [ha] at hb
      simp only at hb
      split at hb
      · rename_i hoff
        cases hc : flatFs P F r (off + a.length) with
        | none => rw [hc] at hb; cases hb
        | some c =>
          rw [hc] at hb
          simp only at hb
          injection hb with hb
          subst hb
          rw [List.length_append] at hle
          have hfj : fs[j]? = some f := by
            have : (fs.toList.drop j)[0]? = some f := by rw [hj]; rfl
            rw [List.getElem?_drop] at this
            simpa using this
          have hjl : j < fs.size := (Array.getElem?_eq_some_iff.1 hfj).1
          by_cases hia : i < a.length
          · have h1 := hf j f hfj
            rw [hoff.1, List.getElem?_eq_getElem (by omega)] at h1
            obtain ⟨v, hv, y, m, hy, hz⟩ := hF f.type a ha ((cs.drop off).take (P.cellsOf f.type)) _ (by rw [List.length_take, List.length_drop, hoff.2]; omega) h1 i U (by rw [List.getElem?_append_left hia] at hi; exact hi)
            refine ⟨v, ?_, y, m, hy, fun z hz2 => ?_⟩
            · rw [List.getElem?_take, if_pos (by rw [hoff.2]; exact hia), List.getElem?_drop] at hv
              exact hv
            · have h2 := hz z hz2
              simp only [DataW.weights, ht]
              refine DataW.weights_mem_each (j := j) (t := f.type) (d := (xs[j]'(by omega)).1) ?_ ?_ z h2
              · rw [List.getElem?_map, Array.getElem?_toList, hfj]; rfl
              · rw [List.getElem?_map, List.getElem?_eq_getElem (by omega)]; rfl
          · obtain ⟨v, hv, hr⟩ := ih (j + 1) (off + a.length) c (by rw [← List.drop_drop, hj]; rfl) hc (by omega) (i - a.length) U (by rw [List.getElem?_append_right (by omega)] at hi; exact hi)
            refine ⟨v, ?_, hr⟩
            rw [show off + i = off + a.length + (i - a.length) by omega]
            exact hv
      · cases hb
theorem flat_read : ∀ (k : Nat) (t : TypeId) (ts : List TypeId), flat P k t = some ts → ∀ (fuel : Nat) (cs : List Value) (x : DataW H × List MemPlace), cs.length = P.cellsOf t → DataW.trod enc P w base spare held fuel t cs = some x →
    ∀ (i : Nat) (T : TypeId), ts[i]? = some T → ∃ v, cs[i]? = some v ∧ CellRead enc P w base spare held t x.1 v T
  | 0, _, _, h => by simp [flat] at h
  | k + 1, t, ts, h => by
    intro fuel cs x hlen hx i T hi
    rw [flat] at h
    cases hu : P.underlying t with
    | none => rw [hu] at h; cases h
    | some d =>
      rw [hu] at h
      by_cases hs : ∃ fs, d = .struct fs
      · obtain ⟨fs, rfl⟩ := hs
        simp only at h
        cases hff : flatFs P (flat P k) fs.toList 0 with
        | none => rw [hff] at h; cases h
        | some b =>
          rw [hff] at h
          simp only at h
          split at h
          · rename_i hcl
            injection h with h
            subst h
            obtain ⟨xs, n, rfl, rfl, hl, hxl, hf⟩ := DataW.trod_struct hu hx
            have := flatFs_read (enc := enc) (w := w) (base := base) (spare := spare) (held := held) (F := flat P k) hu hxl (fun T a ha cs x hl2 hx2 => flat_read k T a ha n cs x hl2 hx2) hf fs.toList 0 0 b rfl hff (by omega) i T hi
            simpa using this
          · cases h
      · have h1 : (if P.cellsOf t = 1 then some [t] else none) = some ts := by
          cases d <;> first | exact h | exact absurd ⟨_, rfl⟩ hs
        split at h1
        · rename_i hc
          injection h1 with h1
          subst h1
          have hi0 : i = 0 := by
            cases i with
            | zero => rfl
            | succ i => simp at hi
          subst hi0
          have hT : T = t := by simpa using hi.symm
          subst hT
          rw [hc] at hlen
          obtain ⟨v, rfl⟩ := List.length_eq_one_iff.1 hlen
          exact ⟨v, rfl, x, fuel, hx, fun z hz => hz⟩
        · cases h1
/-- A struct by value. -/
theorem flat_agg {k : Nat} {t : TypeId} {ts : List TypeId} {fs : Array Field} {r : Reach} {b0 : Nat} {v : Value} {d : DataW H} {p : List MemPlace} (hs : P.underlying t = some (.struct fs)) (hfl : flat P k t = some ts)
    (hv : Value.okWide P w r b0 t v) (h : DataW.Trod enc P w base spare held t v d p) : ∃ cs : Array Value, v = .agg cs ∧ cs.size = P.cellsOf t ∧ ∀ (i : Nat) (T : TypeId), ts[i]? = some T → ∃ u, cs[i]? = some u ∧ CellRead enc P w base spare held t d u T := by
  obtain ⟨cs, rfl, hsz⟩ := okWide_struct hs hv
  obtain ⟨fuel, hf⟩ := h
  refine ⟨cs, rfl, hsz, fun i T hi => ?_⟩
  have hc : (Value.agg cs).cells = cs := rfl
  rw [hc] at hf
  obtain ⟨u, hu, hr⟩ := flat_read k t ts hfl fuel cs.toList _ (by simpa using hsz) hf i T hi
  exact ⟨u, by simpa using hu, hr⟩
/-- A slice of structs. -/
theorem flat_slice {k : Nat} {t e : TypeId} {ts : List TypeId} {fuel : Nat} {cs : List Value} {x : DataW H × List MemPlace} (ht : P.underlying t = some (.slice e)) (hfl : flat P k e = some ts)
    (h : DataW.trod enc P w base spare held fuel t cs = some x) :
    cs = [.slice none 0 0] ∨ ∃ (a : Addr) (len cap : Nat), cs = [.slice (some a) len cap] ∧ len ≤ cap ∧ cap ≤ maxLen ∧
      ∀ i, i < len → ∀ (j : Nat) (T : TypeId), ts[j]? = some T → ∃ u, w.cell? (a.add (i * P.cellsOf e + j)) = some u ∧ CellRead enc P w base spare held t x.1 u T := by
  rcases open_slice ht h with h0 | ⟨a, len, cap, m, n, D, Pl, hcs, _, hl, hm, hmm, hx, hi⟩
  · exact .inl h0.1
  · refine .inr ⟨a, len, cap, hcs, hl, hm, fun i hlt j T hj => ?_⟩
    obtain ⟨l, hc, hd⟩ := hi i (by rw [hmm]; split <;> omega)
    obtain ⟨_, hll, hat⟩ := World.cells?_some hc
    obtain ⟨u, hu, y, n2, hy, hz⟩ := flat_read k e ts hfl n l _ (by omega) hd j T hj
    have hjl : j < l.length := (List.getElem?_eq_some_iff.1 hu).1
    refine ⟨u, ?_, y, n2, hy, fun z hz2 => ?_⟩
    · rw [← add_add, hat j (by omega), hu]
    · rw [hx]
      simp only [DataW.weights, ht]
      refine List.mem_cons.2 (.inr (List.mem_append.2 (.inl ?_)))
      exact weights_all (d := D i) (List.mem_map.2 ⟨i, List.mem_range.2 hlt, rfl⟩) (hz z hz2)
/-- A cell that is an int, a truth value, a slice of bytes. -/
theorem CellRead.int {t T : TypeId} {d : DataW H} {v : Value} (h : CellRead enc P w base spare held t d v T) (hT : P.underlying T = some (.int .i64)) : ∃ z, v = .int .i64 z ∧ -9223372036854775808 ≤ z ∧ z ≤ 9223372036854775807 := by
  obtain ⟨y, n, hy, _⟩ := h
  exact fint_of_trod hT hy
theorem CellRead.bool {t T : TypeId} {d : DataW H} {v : Value} (h : CellRead enc P w base spare held t d v T) (hT : P.underlying T = some .bool) : ∃ z, v = .bool z := by
  obtain ⟨y, n, hy, _⟩ := h
  exact fbool_of_trod hT hy
theorem CellRead.byt {t T e : TypeId} {d : DataW H} {v : Value} (h : CellRead enc P w base spare held t d v T) (hT : P.underlying T = some (.slice e)) (he : P.underlying e = some (.int .u8)) (hC : P.cellsOf e = 1) :
    ∃ A len cap bs, v = .slice A len cap ∧ Byt w w.heap.size A len cap bs ∧ cap ≤ maxLen := by
  obtain ⟨y, n, hy, _⟩ := h
  exact fbyt_of_trod hT he hC hy
end
/-- Records, one behind the other, s cells each. -/
def Recs {α : Type} (cells : α → List Value) (s : Nat) (w : World) (B : Nat) (A : Option Addr) (l : List α) : Prop :=
  0 < l.length → ∃ b o, A = some ⟨b, o, none⟩ ∧ b < B ∧ ∀ (k : Nat) (x : α), l[k]? = some x → ∀ (j : Nat) (v : Value), (cells x)[j]? = some v → w.cell? ⟨b, o + (k * s + j), none⟩ = some v
theorem Recs.below {α : Type} {cells : α → List Value} {s : Nat} {w w' : World} {B : Nat} {A : Option Addr} {l : List α} (h : Recs cells s w B A l) (hb : Below B w w') : Recs cells s w' B A l := fun hn => by
  obtain ⟨b, o, e, hlt, hc⟩ := h hn
  exact ⟨b, o, e, hlt, fun k x hk j v hv => (World.cell?_of_block (hb.block b hlt)).trans (hc k x hk j v hv)⟩
theorem Recs.more {α : Type} {cells : α → List Value} {s : Nat} {w : World} {B B' : Nat} {A : Option Addr} {l : List α} (h : Recs cells s w B A l) (hB : B ≤ B') : Recs cells s w B' A l := fun hn => by
  obtain ⟨b, o, e, hlt, hc⟩ := h hn
  exact ⟨b, o, e, Nat.lt_of_lt_of_le hlt hB, hc⟩
theorem recs_of {α : Type} [Inhabited α] {cells : α → List Value} {s n : Nat} {w : World} {a : Addr} {G : α → Prop} (h0 : ∀ x, ∃ v, (cells x)[0]? = some v)
    (key : ∀ i, i < n → ∃ x : α, (∀ (j : Nat) (v : Value), (cells x)[j]? = some v → w.cell? (a.add (i * s + j)) = some v) ∧ G x) : ∃ l : List α, l.length = n ∧ Recs cells s w w.heap.size (some a) l ∧ ∀ x ∈ l, G x := by
  obtain ⟨f, hf⟩ := choose_lt (n := n) key
  refine ⟨(List.range n).map f, by simp, fun hn => ?_, fun x hx => ?_⟩
  · have hn0 : 0 < n := by simpa using hn
    obtain ⟨v, hv⟩ := h0 (f 0)
    have h00 := (hf 0 hn0).1 0 v hv
    rw [show 0 * s + 0 = 0 by omega] at h00
    obtain ⟨b, o, rfl, hb⟩ := spot_none h00
    refine ⟨b, o, rfl, hb, fun k x hk j u hu => ?_⟩
    have hkn : k < n := by
      have := (List.getElem?_eq_some_iff.1 hk).1
      simpa using this
    have e : x = f k := by
      rw [List.getElem?_map, List.getElem?_range hkn] at hk
      simpa using hk.symm
    subst e
    have := (hf k hkn).1 j u hu
    rw [add_eq] at this
    exact this
  · obtain ⟨r, hr, rfl⟩ := List.mem_map.1 hx
    exact (hf r (List.mem_range.1 hr)).2
end Go.Proofs.YtmhjddmamknglaaGreat
end

section
namespace Go.Proofs.YtmhjddmamknglaaGreat.Oct
set_option maxRecDepth 100000
set_option linter.unusedSimpArgs false
set_option linter.unusedVariables false

/-- The digit of a number below 16. -/
def dg (n : Nat) : UInt8 := if n < 10 then UInt8.ofNat (48 + n) else UInt8.ofNat (87 + n)
def hexS (b : List UInt8) : List UInt8 := b.flatMap fun x => [dg (x.toNat / 16), dg (x.toNat % 16)]
/-- The value of a digit, or -1. -/
def dv (c : Nat) : Int := if 48 ≤ c ∧ c ≤ 57 then (c : Int) - 48 else if 97 ≤ c ∧ c ≤ 102 then (c : Int) - 87 else if 65 ≤ c ∧ c ≤ 70 then (c : Int) - 55 else -1
theorem dv_bd (c : Nat) : -1 ≤ dv c ∧ dv c ≤ 15 := by unfold dv; repeat' split
                                                      all_goals omega
theorem dv_high (c : Nat) (h : 128 ≤ c) : dv c = -1 := by
  unfold dv; rw [if_neg (by omega), if_neg (by omega), if_neg (by omega)]
theorem dv_dg : ∀ n, n < 16 → dv (dg n).toNat = n := by decide +kernel
def isD (c : UInt8) : Bool := decide (0 ≤ dv c.toNat)
def dn (c : UInt8) : Nat := (dv c.toNat).toNat
theorem dn_lt (c : UInt8) : dn c < 16 := by have := dv_bd c.toNat; unfold dn; omega
/-- The bytes of pairs of digits. -/
def prs : List UInt8 → List UInt8
  | a :: b :: r => UInt8.ofNat (dn a * 16 + dn b) :: prs r
  | _ => []
def prOk (s : List UInt8) : Bool := s.length % 2 == 0 && s.all isD
def prE (s : List UInt8) : Int := if prOk s then 0 else 4
def prB (s : List UInt8) : List UInt8 := if prOk s then prs s else []
theorem prs_length : ∀ s : List UInt8, (prs s).length = s.length / 2
  | [] => rfl
  | [_] => by simp [prs]
  | a :: b :: r => by simp only [prs, List.length_cons]; rw [prs_length r]; omega
theorem prs_get : ∀ (s : List UInt8) (j : Nat), 2 * j + 1 < s.length → (prs s).getD j 0 = UInt8.ofNat (dn (s.getD (2 * j) 0) * 16 + dn (s.getD (2 * j + 1) 0))
  | [], j, h => by simp at h
  | [_], j, h => by simp at h
  | a :: b :: r, 0, _ => by simp [prs]
  | a :: b :: r, j + 1, h => by
    have := prs_get r j (by simp only [List.length_cons] at h; omega)
    simp only [prs, List.getD_cons_succ, show 2 * (j + 1) = 2 * j + 1 + 1 by omega]
    exact this
theorem hexS_length (b : List UInt8) : (hexS b).length = 2 * b.length := by
  induction b with
  | nil => rfl
  | cons x b ih => simp only [hexS, List.flatMap_cons, List.length_append, List.length_cons, List.length_nil] at *; omega
theorem hexS_ok (b : List UInt8) : prOk (hexS b) = true := by
  unfold prOk
  rw [hexS_length]
  simp only [Nat.mul_mod_right, beq_self_eq_true, Bool.true_and]
  rw [List.all_eq_true]
  intro c hc
  obtain ⟨x, _, hx⟩ := List.mem_flatMap.1 hc
  have hx256 := x.toNat_lt
  have : c = dg (x.toNat / 16) ∨ c = dg (x.toNat % 16) := by simpa using hx
  rcases this with rfl | rfl
  · unfold isD; rw [dv_dg _ (by omega)]; simp; omega
  · unfold isD; rw [dv_dg _ (by omega)]; simp; omega
theorem prs_hexS (b : List UInt8) : prs (hexS b) = b := by
  induction b with
  | nil => rfl
  | cons x b ih =>
    have hx := x.toNat_lt
    simp only [hexS, List.flatMap_cons, List.cons_append, List.nil_append, prs] at *
    rw [ih]
    congr 1
    unfold dn
    rw [dv_dg _ (by omega), dv_dg _ (by omega)]
    apply UInt8.toNat_inj.1
    rw [UInt8.toNat_ofNat']
    simp only [Int.toNat_natCast]
    omega
theorem hexS_take (b : List UInt8) (k : Nat) (h : k < b.length) : hexS (b.take (k + 1)) = hexS (b.take k) ++ [dg ((b.getD k 0).toNat / 16), dg ((b.getD k 0).toNat % 16)] := by
  rw [List.take_succ_eq_append_getElem h]
  simp only [hexS, List.flatMap_append, List.flatMap_cons, List.flatMap_nil, List.append_nil, List.getD, List.getElem?_eq_getElem h, Option.getD_some]

/-- Padding: the byte 80 and as few zeros as are necessary. -/
def padN (len n : Nat) : Nat := if (len + 1) % n = 0 then 0 else n - (len + 1) % n
def pad (b : List UInt8) (n : Nat) : List UInt8 := b ++ [0x80] ++ List.replicate (padN b.length n) 0
def padOk (n : Int) : Bool := decide (1 ≤ n) && decide (n ≤ 65536)
def padE (n : Int) : Int := if padOk n then 0 else 1
def padB (b : List UInt8) (n : Int) : List UInt8 := if padOk n then pad b n.toNat else []
def unpR : List UInt8 → Option (List UInt8)
  | [] => none
  | x :: r => if x = 0 then unpR r else if x = 0x80 then some r.reverse else none
def unp (b : List UInt8) : Option (List UInt8) := unpR b.reverse
def unpE (b : List UInt8) : Int := if (unp b).isSome then 0 else 4
def unpB (b : List UInt8) : List UInt8 := (unp b).getD []
theorem unp_snoc (l : List UInt8) (x : UInt8) : unp (l ++ [x]) = if x = 0 then unp l else if x = 0x80 then some l else none := by
  simp only [unp, List.reverse_append, List.reverse_cons, List.reverse_nil, List.nil_append, List.cons_append, unpR, List.reverse_reverse]
theorem unp_take (b : List UInt8) (k : Nat) (h : k < b.length) : unp (b.take (k + 1)) = if b.getD k 0 = 0 then unp (b.take k) else if b.getD k 0 = 0x80 then some (b.take k) else none := by
  rw [List.take_succ_eq_append_getElem h, unp_snoc]
  simp only [List.getD, List.getElem?_eq_getElem h, Option.getD_some]
theorem unp_pad (b : List UInt8) (n : Nat) : unp (pad b n) = some b := by
  unfold pad
  generalize padN b.length n = m
  induction m with
  | zero => rw [List.replicate_zero, List.append_nil, unp_snoc, if_neg (by decide), if_pos rfl]
  | succ m ih => rw [List.replicate_succ', ← List.append_assoc, unp_snoc, if_pos rfl]; exact ih
theorem padN_lt (len n : Nat) (h : 1 ≤ n) : padN len n < n := by
  unfold padN
  have := Nat.mod_lt (len + 1) (show 0 < n by omega)
  split <;> omega
theorem pad_length (b : List UInt8) (n : Nat) : (pad b n).length = b.length + 1 + padN b.length n := by simp [pad]; omega
theorem pad_mod (b : List UInt8) (n : Nat) (h : 1 ≤ n) : (pad b n).length % n = 0 := by
  rw [pad_length]
  unfold padN
  split
  · omega
  · have h1 := Nat.mod_lt (b.length + 1) (show 0 < n by omega)
    have h2 : b.length + 1 + (n - (b.length + 1) % n) = n * ((b.length + 1) / n) + n := by have := Nat.div_add_mod (b.length + 1) n; omega
    rw [h2]
    simp

/-- A number as bytes, the most significant one first. -/
def putB (n width : Nat) : List UInt8 := (List.range width).map fun j => UInt8.ofNat (n / 256 ^ (width - 1 - j))
def numK (b : List UInt8) (k : Nat) : Nat := (List.range k).foldl (fun n i => n * 256 + (b.getD i 0).toNat) 0
def num (b : List UInt8) : Nat := numK b b.length
theorem numK_succ (b : List UInt8) (k : Nat) : numK b (k + 1) = numK b k * 256 + (b.getD k 0).toNat := by simp [numK, List.range_succ]
theorem numK_lt (b : List UInt8) (k : Nat) : numK b k < 256 ^ k := by
  induction k with
  | zero => simp [numK]
  | succ k ih => rw [numK_succ, Nat.pow_succ]; have := (b.getD k 0).toNat_lt; omega
/-- The errors of Put, and its bytes. -/
def ptE (n width : Int) : Int := if width < 1 ∨ 8 < width then 1 else if n < 0 ∨ (256 : Int) ^ width.toNat ≤ n then 2 else 0
def ptB (n width : Int) : List UInt8 := if ptE n width = 0 then putB n.toNat width.toNat else []
def gtE (b : List UInt8) : Int := if 8 < b.length then 3 else if 9223372036854775808 ≤ num b then 2 else 0
def gtN (b : List UInt8) : Nat := if gtE b = 0 then num b else 0
theorem putB_length (n width : Nat) : (putB n width).length = width := by simp [putB]
theorem putB_get (n width j : Nat) (h : j < width) : (putB n width).getD j 0 = UInt8.ofNat (n / 256 ^ (width - 1 - j)) := by
  unfold putB
  rw [List.getD, List.getElem?_eq_getElem (by simpa using h)]; simp
theorem numK_putB (n width k : Nat) (h : k ≤ width) : numK (putB n width) k = n % 256 ^ width / 256 ^ (width - k) := by
  induction k with
  | zero => rw [Nat.sub_zero, Nat.div_eq_of_lt (Nat.mod_lt _ (Nat.pow_pos (by omega)))]; rfl
  | succ k ih =>
    rw [numK_succ, ih (by omega), putB_get n width k (by omega)]
    rw [UInt8.toNat_ofNat']
    have e1 : 256 ^ (width - k) = 256 ^ (width - (k + 1)) * 256 := by rw [show width - k = width - (k + 1) + 1 by omega, Nat.pow_succ]
    have e2 : width - 1 - k = width - (k + 1) := by omega
    have e3 : 256 ^ width = 256 ^ (width - (k + 1)) * 256 * 256 ^ k := by rw [← e1, ← Nat.pow_add]; congr 1; omega
    rw [e1, e2, ← Nat.div_div_eq_div_mul]
    have e4 : n / 256 ^ (width - (k + 1)) % 256 = n % 256 ^ width / 256 ^ (width - (k + 1)) % 256 := by
      generalize hq : 256 ^ (width - (k + 1)) = q at *
      have hd : n % 256 ^ width = n % (q * (256 * 256 ^ k)) := by rw [e3, Nat.mul_assoc]
      rw [hd, Nat.mod_mul_right_div_self, Nat.mod_mul_right_mod]
    rw [show 2 ^ 8 = 256 from rfl, e4]
    omega
theorem num_putB (n width : Nat) (h : n < 256 ^ width) : num (putB n width) = n := by
  unfold num
  rw [putB_length, numK_putB n width width (Nat.le_refl _), Nat.sub_self, Nat.pow_zero, Nat.div_one, Nat.mod_eq_of_lt h]

/-- The pieces of n bytes, the last of which may be shorter. -/
def pieces (n : Nat) : Nat → List UInt8 → List (List UInt8)
  | 0, _ => []
  | f + 1, b => if b = [] then [] else b.take n :: pieces n f (b.drop n)
def split (b : List UInt8) (n : Nat) : List (List UInt8) := pieces n b.length b
theorem pieces_fuel (n : Nat) (hn : 1 ≤ n) : ∀ (f g : Nat) (b : List UInt8), b.length ≤ f → b.length ≤ g → pieces n f b = pieces n g b
  | 0, g, b, hf, _ => by
    have : b = [] := List.eq_nil_of_length_eq_zero (by omega)
    subst this
    cases g <;> simp [pieces]
  | f + 1, 0, b, _, hg => by
    have : b = [] := List.eq_nil_of_length_eq_zero (by omega)
    subst this
    simp [pieces]
  | f + 1, g + 1, b, hf, hg => by
    simp only [pieces]
    split
    · rfl
    · rename_i hb
      have h0 : 0 < b.length := List.length_pos_iff.2 hb
      rw [pieces_fuel n hn f g (b.drop n) (by rw [List.length_drop]; omega) (by rw [List.length_drop]; omega)]
theorem split_nil (n : Nat) : split [] n = [] := rfl
theorem split_cons (b : List UInt8) (n : Nat) (hn : 1 ≤ n) (hb : 0 < b.length) : split b n = b.take n :: split (b.drop n) n := by
  unfold split
  obtain ⟨f, hf⟩ : ∃ f, b.length = f + 1 := ⟨b.length - 1, by omega⟩
  rw [hf]
  simp only [pieces]
  rw [if_neg (by intro e; subst e; simp at hb)]
  congr 1
  exact pieces_fuel n hn _ _ _ (by rw [List.length_drop]; omega) (Nat.le_refl _)
theorem split_flat (n : Nat) (hn : 1 ≤ n) : ∀ (m : Nat) (b : List UInt8), b.length ≤ m → (split b n).flatten = b
  | 0, b, h => by
    have : b = [] := List.eq_nil_of_length_eq_zero (by omega)
    subst this; rfl
  | m + 1, b, h => by
    rcases Nat.eq_zero_or_pos b.length with h0 | h0
    · have : b = [] := List.eq_nil_of_length_eq_zero h0
      subst this; rfl
    · rw [split_cons b n hn h0, List.flatten_cons, split_flat n hn m (b.drop n) (by rw [List.length_drop]; omega), List.take_append_drop]
theorem split_length_le (n : Nat) (hn : 1 ≤ n) : ∀ (m : Nat) (b : List UInt8), b.length ≤ m → (split b n).length ≤ b.length
  | 0, b, h => by
    have : b = [] := List.eq_nil_of_length_eq_zero (by omega)
    subst this; exact Nat.le_refl _
  | m + 1, b, h => by
    rcases Nat.eq_zero_or_pos b.length with h0 | h0
    · have : b = [] := List.eq_nil_of_length_eq_zero h0
      subst this; exact Nat.le_refl _
    · have := split_length_le n hn m (b.drop n) (by rw [List.length_drop]; omega)
      rw [split_cons b n hn h0, List.length_cons]
      rw [List.length_drop] at this
      omega
def spE (n : Int) : Int := if n < 1 then 1 else 0
def spB (b : List UInt8) (n : Int) : List (List UInt8) := if n < 1 then [] else split b n.toNat
def xor (a b : List UInt8) : List UInt8 := (List.range a.length).map fun i => a.getD i 0 ^^^ b.getD i 0
theorem xor_back (a b : List UInt8) : xor (xor a b) b = a := by
  apply List.ext_getElem
  · simp [xor]
  · intro i h1 h2
    have h3 : i < (xor a b).length := by simpa [xor] using h2
    simp only [xor, List.getElem_map, List.getElem_range]
    rw [List.getD, List.getElem?_eq_getElem (by simpa using h2)]
    simp [List.getD, List.getElem?_eq_getElem h2, UInt8.xor_assoc]
end Go.Proofs.YtmhjddmamknglaaGreat.Oct
end

section
namespace Go.Proofs.YtmhjddmamknglaaGreat.Oct
set_option maxRecDepth 100000
set_option linter.unusedSimpArgs false
set_option linter.unusedVariables false

/-- Byte by byte; a beginning of another string comes before it. -/
def cmp : List UInt8 → List UInt8 → Int
  | [], [] => 0
  | [], _ :: _ => -1
  | _ :: _, [] => 1
  | a :: as1, b :: bs => if a.toNat < b.toNat then -1 else if b.toNat < a.toNat then 1 else cmp as1 bs

theorem cmp_zero : ∀ (a b : List UInt8), cmp a b = 0 ↔ a = b
  | [], [] => by simp [cmp]
  | [], _ :: _ => by simp [cmp]
  | _ :: _, [] => by simp [cmp]
  | a :: as1, b :: bs => by
    simp only [cmp]
    split
    · rename_i h
      constructor
      · intro h'; cases h'
      · intro h'; obtain ⟨rfl, _⟩ := List.cons.inj h'; omega
    · split
      · rename_i h
        constructor
        · intro h'; cases h'
        · intro h'; obtain ⟨rfl, _⟩ := List.cons.inj h'; omega
      · rename_i h1 h2
        have e : a = b := UInt8.toNat_inj.1 (by omega)
        subst e
        rw [cmp_zero as1 bs]
        simp
theorem cmp_bd : ∀ (a b : List UInt8), -1 ≤ cmp a b ∧ cmp a b ≤ 1
  | [], [] => by simp [cmp]
  | [], _ :: _ => by simp [cmp]
  | _ :: _, [] => by simp [cmp]
  | a :: as1, b :: bs => by
    simp only [cmp]
    split
    · omega
    · split
      · omega
      · exact cmp_bd as1 bs
theorem cmp_step (a b : List UInt8) (k : Nat) (ha : k < a.length) (hb : k < b.length) :
    cmp (a.drop k) (b.drop k) = if (a.getD k 0).toNat < (b.getD k 0).toNat then -1 else if (b.getD k 0).toNat < (a.getD k 0).toNat then 1 else cmp (a.drop (k + 1)) (b.drop (k + 1)) := by
  rw [List.drop_eq_getElem_cons ha, List.drop_eq_getElem_cons hb]
  simp [cmp, List.getD, List.getElem?_eq_getElem ha, List.getElem?_eq_getElem hb]
theorem cmp_end (a b : List UInt8) (k : Nat) (ha : k ≤ a.length) (hb : k ≤ b.length) (h : k = a.length ∨ k = b.length) :
    cmp (a.drop k) (b.drop k) = if a.length < b.length then -1 else if b.length < a.length then 1 else 0 := by
  rcases h with h | h
  · rw [h, List.drop_length]
    rcases Nat.lt_or_ge a.length b.length with h' | h'
    · rw [List.drop_eq_getElem_cons h', if_pos h']; rfl
    · have e : b.length = a.length := by omega
      rw [if_neg (by omega), if_neg (by omega), ← e, List.drop_length]; rfl
  · rw [h, List.drop_length]
    rcases Nat.lt_or_ge b.length a.length with h' | h'
    · rw [List.drop_eq_getElem_cons h', if_neg (by omega), if_pos h']; rfl
    · have e : a.length = b.length := by omega
      rw [if_neg (by omega), if_neg (by omega), ← e, List.drop_length]; rfl
/-- Are two strings the same? -/
def same (a b : List UInt8) : Bool := decide (a = b)
theorem same_refl (a : List UInt8) : same a a = true := by simp [same]
theorem same_iff (a b : List UInt8) : same a b = true ↔ a = b := by simp [same]
theorem same_cmp (a b : List UInt8) : (cmp a b == 0) = same a b := by
  rw [Bool.eq_iff_iff, same_iff, beq_iff_eq, cmp_zero]
end Go.Proofs.YtmhjddmamknglaaGreat.Oct
end

section
namespace Go.Proofs.YtmhjddmamknglaaGreat
set_option maxRecDepth 100000
set_option linter.unusedSimpArgs false
set_option linter.unusedVariables false
open Go.RowKit

set_option maxHeartbeats 1000000 in
theorem ref01_Compare (A A' : Option Addr) (n n' c c' : Nat) (xs ys : List UInt8) (w : World) (hx : Byt w w.heap.size A n c xs) (hy : Byt w w.heap.size A' n' c' ys) (hn : n ≤ 9223372036854775807) (hn' : n' ≤ 9223372036854775807) :
    Calls Tryz.prog 49 #[.slice A n c, .slice A' n' c'] w fun e w' => e = .returned (.int .i64 (Oct.cmp xs ys)) ∧ ∃ k, w' = w.drewN k := by
  have lx := Lib.hid hx.1
  have ly := Lib.hid hy.1
  have rx := hx.2.2
  have ry := hy.2.2
  clear hx hy
  go_enter Tryz.func49, Tryz.ntmps49
  go_wp2_with fail
  go_loopw [5] (fun i wr => ∃ k : Nat, k ≤ n ∧ k ≤ n' ∧ i = .int .i64 k ∧ Hid (Oct.cmp xs ys = Oct.cmp (xs.drop k) (ys.drop k)) ∧ ∃ d, wr = w.drewN d) (fun i _ => n - (intOf i).toNat)
  case atStart => exact ⟨0, by omega, by omega, rfl, rfl, 0, rfl⟩
  case round =>
    obtain ⟨k, hk, hk', rfl, he, d, rfl⟩ := hrel
    by_cases h1 : k < n
    · by_cases h2 : k < n'
      · obtain ⟨b, o, rfl, hb, -⟩ := rx.at_ (j := k) (by rw [length_bcells, lx.out]; exact h1)
        obtain ⟨b', o', rfl, hb', -⟩ := ry.at_ (j := k) (by rw [length_bcells, ly.out]; exact h2)
        have c1 := rx.byte k (by rw [lx.out]; exact h1)
        have c2 := ry.byte k (by rw [ly.out]; exact h2)
        have hst := Lib.hid (Oct.cmp_step xs ys k (by rw [lx.out]; exact h1) (by rw [ly.out]; exact h2))
        generalize (xs.getD k 0).toNat = x at *
        generalize (ys.getD k 0).toNat = y at *
        have i0 : (0 : Int) ≤ (k : Int) := by omega
        have i1 : (k : Int) < (n : Int) := by omega
        have i2 : (k : Int) < (n' : Int) := by omega
        rcases (show x < y ∨ (y < x ∧ ¬ x < y) ∨ (¬ y < x ∧ ¬ x < y) by omega) with h | ⟨h, h'⟩ | ⟨h, h'⟩
        · have hd : decide (x < y) = true := by simpa using h
          go_wp2_with fail
          go_quiet (fail)
          go_wp2_with fail
          go_ret
          exact ⟨ret_int (by rw [he.out, hst.out, if_pos h]), _, by first | rfl | (simp only [World.drewN_drewN]; rfl)⟩
        · have hd : decide (x < y) = false := by simpa using h'
          have hd' : decide (y < x) = true := by simpa using h
          go_wp2_with fail
          go_quiet (fail)
          go_wp2_with fail
          go_quiet (fail)
          go_wp2_with fail
          go_ret
          exact ⟨ret_int (by rw [he.out, hst.out, if_neg h', if_pos h]), _, by first | rfl | (simp only [World.drewN_drewN]; rfl)⟩
        · have hd : decide (x < y) = false := by simpa using h'
          have hd' : decide (y < x) = false := by simpa using h
          go_wp2_with fail
          go_quiet (fail)
          go_wp2_with fail
          go_quiet (fail)
          go_wp2_with fail
          go_roundw
          case rel => exact ⟨k + 1, by omega, by omega, by go_num, by rw [he.out, hst.out, if_neg h', if_neg h]; rfl, _, by first | rfl | (simp only [World.drewN_drewN]; rfl)⟩
          case measure => simp [intOf]; omega
      · obtain rfl : k = n' := by omega
        have hst := Lib.hid (Oct.cmp_end xs ys k (by rw [lx.out]; exact hk) (by rw [ly.out]; exact hk') (.inr ly.out.symm))
        go_wp2_with fail
        go_ret
        exact ⟨ret_int (by rw [he.out, hst.out, lx.out, ly.out, if_neg (by omega), if_pos h1]), _, by first | rfl | (simp only [World.drewN_drewN]; rfl)⟩
    · obtain rfl : k = n := by omega
      have hst := Lib.hid (Oct.cmp_end xs ys k (by rw [lx.out]; exact hk) (by rw [ly.out]; exact hk') (.inl lx.out.symm))
      by_cases h2 : k < n'
      · go_wp2_with fail
        go_ret
        exact ⟨ret_int (by rw [he.out, hst.out, lx.out, ly.out, if_pos h2]), _, by first | rfl | (simp only [World.drewN_drewN]; rfl)⟩
      · go_wp2_with fail
        go_ret
        exact ⟨ret_int (by rw [he.out, hst.out, lx.out, ly.out, if_neg h2, if_neg (by omega)]), _, by first | rfl | (simp only [World.drewN_drewN]; rfl)⟩

set_option maxHeartbeats 400000 in
theorem ref01_Same (A A' : Option Addr) (n n' c c' : Nat) (xs ys : List UInt8) (w : World) (hx : Byt w w.heap.size A n c xs) (hy : Byt w w.heap.size A' n' c' ys) (hn : n ≤ 9223372036854775807) (hn' : n' ≤ 9223372036854775807) :
    Calls Tryz.prog 22 #[.slice A n c, .slice A' n' c'] w fun e w' => e = .returned (.bool (Oct.same xs ys)) ∧ ∃ k, w' = w.drewN k := by
  have hs := Lib.hid (Oct.same_cmp xs ys)
  go_enter Tryz.func22, Tryz.ntmps22
  go_wp2_with (go_at_call 49; refine (ref01_Compare A A' n n' c c' xs ys w hx hy hn hn').mono ?_; rintro e w1 ⟨rfl, k1, rfl⟩)
  go_ret
  exact ⟨by rw [← hs.out]; rfl, _, rfl⟩
end Go.Proofs.YtmhjddmamknglaaGreat
end

section
namespace Go.Proofs.YtmhjddmamknglaaGreat
set_option maxRecDepth 100000
set_option linter.unusedSimpArgs false
set_option linter.unusedVariables false
open Go.RowKit

theorem o_u8 : (Tryz.prog.info? 5).map (fun i => (i.zero, i.size, i.bytes)) = some (some (.int .u8 0), 1, 1) := by kernel_rfl
set_option maxRecDepth 100000 in
theorem digit_index (k : Nat) (hk : k < 16) (u : World) : (Instr.index 9 (.string ⟨#[48, 49, 50, 51, 52, 53, 54, 55, 56, 57, 97, 98, 99, 100, 101, 102]⟩) (.int .u8 (k : Int))).run Tryz.prog u = .ok (.int .u8 ((Oct.dg k).toNat : Int)) u := by
  match k, hk with
  | 0, _ => exact (by kernel_rfl : (Instr.index 9 (.string ⟨#[48, 49, 50, 51, 52, 53, 54, 55, 56, 57, 97, 98, 99, 100, 101, 102]⟩) (.int .u8 ((0 : Nat) : Int))).run Tryz.prog u = .ok (.int .u8 ((Oct.dg 0).toNat : Int)) u)
  | 1, _ => exact (by kernel_rfl : (Instr.index 9 (.string ⟨#[48, 49, 50, 51, 52, 53, 54, 55, 56, 57, 97, 98, 99, 100, 101, 102]⟩) (.int .u8 ((1 : Nat) : Int))).run Tryz.prog u = .ok (.int .u8 ((Oct.dg 1).toNat : Int)) u)
  | 2, _ => exact (by kernel_rfl : (Instr.index 9 (.string ⟨#[48, 49, 50, 51, 52, 53, 54, 55, 56, 57, 97, 98, 99, 100, 101, 102]⟩) (.int .u8 ((2 : Nat) : Int))).run Tryz.prog u = .ok (.int .u8 ((Oct.dg 2).toNat : Int)) u)
  | 3, _ => exact (by kernel_rfl : (Instr.index 9 (.string ⟨#[48, 49, 50, 51, 52, 53, 54, 55, 56, 57, 97, 98, 99, 100, 101, 102]⟩) (.int .u8 ((3 : Nat) : Int))).run Tryz.prog u = .ok (.int .u8 ((Oct.dg 3).toNat : Int)) u)
  | 4, _ => exact (by kernel_rfl : (Instr.index 9 (.string ⟨#[48, 49, 50, 51, 52, 53, 54, 55, 56, 57, 97, 98, 99, 100, 101, 102]⟩) (.int .u8 ((4 : Nat) : Int))).run Tryz.prog u = .ok (.int .u8 ((Oct.dg 4).toNat : Int)) u)
  | 5, _ => exact (by kernel_rfl : (Instr.index 9 (.string ⟨#[48, 49, 50, 51, 52, 53, 54, 55, 56, 57, 97, 98, 99, 100, 101, 102]⟩) (.int .u8 ((5 : Nat) : Int))).run Tryz.prog u = .ok (.int .u8 ((Oct.dg 5).toNat : Int)) u)
  | 6, _ => exact (by kernel_rfl : (Instr.index 9 (.string ⟨#[48, 49, 50, 51, 52, 53, 54, 55, 56, 57, 97, 98, 99, 100, 101, 102]⟩) (.int .u8 ((6 : Nat) : Int))).run Tryz.prog u = .ok (.int .u8 ((Oct.dg 6).toNat : Int)) u)
  | 7, _ => exact (by kernel_rfl : (Instr.index 9 (.string ⟨#[48, 49, 50, 51, 52, 53, 54, 55, 56, 57, 97, 98, 99, 100, 101, 102]⟩) (.int .u8 ((7 : Nat) : Int))).run Tryz.prog u = .ok (.int .u8 ((Oct.dg 7).toNat : Int)) u)
  | 8, _ => exact (by kernel_rfl : (Instr.index 9 (.string ⟨#[48, 49, 50, 51, 52, 53, 54, 55, 56, 57, 97, 98, 99, 100, 101, 102]⟩) (.int .u8 ((8 : Nat) : Int))).run Tryz.prog u = .ok (.int .u8 ((Oct.dg 8).toNat : Int)) u)
  | 9, _ => exact (by kernel_rfl : (Instr.index 9 (.string ⟨#[48, 49, 50, 51, 52, 53, 54, 55, 56, 57, 97, 98, 99, 100, 101, 102]⟩) (.int .u8 ((9 : Nat) : Int))).run Tryz.prog u = .ok (.int .u8 ((Oct.dg 9).toNat : Int)) u)
  | 10, _ => exact (by kernel_rfl : (Instr.index 9 (.string ⟨#[48, 49, 50, 51, 52, 53, 54, 55, 56, 57, 97, 98, 99, 100, 101, 102]⟩) (.int .u8 ((10 : Nat) : Int))).run Tryz.prog u = .ok (.int .u8 ((Oct.dg 10).toNat : Int)) u)
  | 11, _ => exact (by kernel_rfl : (Instr.index 9 (.string ⟨#[48, 49, 50, 51, 52, 53, 54, 55, 56, 57, 97, 98, 99, 100, 101, 102]⟩) (.int .u8 ((11 : Nat) : Int))).run Tryz.prog u = .ok (.int .u8 ((Oct.dg 11).toNat : Int)) u)
  | 12, _ => exact (by kernel_rfl : (Instr.index 9 (.string ⟨#[48, 49, 50, 51, 52, 53, 54, 55, 56, 57, 97, 98, 99, 100, 101, 102]⟩) (.int .u8 ((12 : Nat) : Int))).run Tryz.prog u = .ok (.int .u8 ((Oct.dg 12).toNat : Int)) u)
  | 13, _ => exact (by kernel_rfl : (Instr.index 9 (.string ⟨#[48, 49, 50, 51, 52, 53, 54, 55, 56, 57, 97, 98, 99, 100, 101, 102]⟩) (.int .u8 ((13 : Nat) : Int))).run Tryz.prog u = .ok (.int .u8 ((Oct.dg 13).toNat : Int)) u)
  | 14, _ => exact (by kernel_rfl : (Instr.index 9 (.string ⟨#[48, 49, 50, 51, 52, 53, 54, 55, 56, 57, 97, 98, 99, 100, 101, 102]⟩) (.int .u8 ((14 : Nat) : Int))).run Tryz.prog u = .ok (.int .u8 ((Oct.dg 14).toNat : Int)) u)
  | 15, _ => exact (by kernel_rfl : (Instr.index 9 (.string ⟨#[48, 49, 50, 51, 52, 53, 54, 55, 56, 57, 97, 98, 99, 100, 101, 102]⟩) (.int .u8 ((15 : Nat) : Int))).run Tryz.prog u = .ok (.int .u8 ((Oct.dg 15).toNat : Int)) u)
  | n + 16, h => omega

end Go.Proofs.YtmhjddmamknglaaGreat
end

section
namespace Go.Proofs.YtmhjddmamknglaaGreat
set_option maxRecDepth 100000
set_option linter.unusedSimpArgs false
set_option linter.unusedVariables false
open Go.RowKit

/-- The bytes while k digits are read. -/
def outK (s : List UInt8) (k : Nat) : List UInt8 := (List.range (s.length / 2)).map fun j => if 2 * j + 1 < k then UInt8.ofNat (Oct.dn (s.getD (2 * j) 0) * 16 + Oct.dn (s.getD (2 * j + 1) 0)) else if 2 * j < k then UInt8.ofNat (Oct.dn (s.getD (2 * j) 0)) else 0
theorem outK_zero (s : List UInt8) : outK s 0 = zs (s.length / 2) := by
  unfold outK zs
  apply List.ext_getElem
  · simp
  · intro j h1 h2; simp
theorem outK_get (s : List UInt8) (k j : Nat) (h : j < s.length / 2) : (outK s k).getD j 0 = if 2 * j + 1 < k then UInt8.ofNat (Oct.dn (s.getD (2 * j) 0) * 16 + Oct.dn (s.getD (2 * j + 1) 0)) else if 2 * j < k then UInt8.ofNat (Oct.dn (s.getD (2 * j) 0)) else 0 := by
  rw [List.getD, List.getElem?_eq_getElem (by simpa [outK] using h)]; simp [outK]
theorem outK_length (s : List UInt8) (k : Nat) : (outK s k).length = s.length / 2 := by simp [outK]
theorem outK_full (s : List UInt8) (h : s.length % 2 = 0) : outK s s.length = Oct.prs s := by
  apply List.ext_getElem
  · rw [outK_length, Oct.prs_length]
  · intro j h1 h2
    have hj : 2 * j + 1 < s.length := by rw [outK_length] at h1; omega
    have := Oct.prs_get s j hj
    rw [List.getD, List.getElem?_eq_getElem h2, Option.getD_some] at this
    rw [this]
    simp [outK, hj]
theorem outK_set (s : List UInt8) (k : Nat) (hk : k < s.length / 2 * 2) : (outK s k).set (k / 2) (UInt8.ofNat (((outK s k).getD (k / 2) 0).toNat * 16 % 256 + Oct.dn (s.getD k 0))) = outK s (k + 1) := by
  have hj : k / 2 < s.length / 2 := by omega
  rw [outK_get s k (k / 2) hj]
  apply List.ext_getElem
  · simp [outK]
  · intro i h1 h2
    rw [List.getElem_set]
    simp only [outK, List.getElem_map, List.getElem_range]
    by_cases e : k / 2 = i
    · subst e
      rw [if_pos rfl, if_neg (by omega)]
      have d0 := Oct.dn_lt (s.getD (2 * (k / 2)) 0)
      rcases Nat.mod_two_eq_zero_or_one k with hm | hm
      · have ek : 2 * (k / 2) = k := by omega
        rw [ek, if_neg (by omega), if_neg (by omega), if_pos (by omega)]
        simp
      · have ek : 2 * (k / 2) + 1 = k := by omega
        have ek2 : s.getD (2 * (k / 2) + 1) 0 = s.getD k 0 := by rw [ek]
        rw [if_pos (by omega), if_pos (by omega), ek2, UInt8.toNat_ofNat_of_lt' (by simp only [UInt8.size]; omega), Nat.mod_eq_of_lt (by omega)]
    · rw [if_neg e]
      by_cases h3 : 2 * i + 1 < k
      · rw [if_pos h3, if_pos (by omega)]
      · rw [if_neg h3, if_neg (by omega), if_neg (by omega), if_neg (by omega)]
theorem bcells_set (bs : List UInt8) (i : Nat) (x : UInt8) : bcells (bs.set i x) = (bcells bs).set i (B8 x) := by simp [bcells, List.map_set]
theorem or_digit (x d : Nat) (hd : d < 16) : bits BinOp.or IntKind.u8 ((x : Int) * 16 % 256) (d : Int) = ((x * 16 % 256 + d : Nat) : Int) := by
  rw [show (x : Int) * 16 % 256 = ((x * 16 % 256 : Nat) : Int) by omega, u8_or_nat _ _ (by omega) (by omega), nat_join 4 _ _ (by omega) (by omega)]

theorem Only.iterAt (w : World) (K : Nat) (s : ByteArray) (p : Nat) : Only (fun q => q = K) w (w.iterAt K s p) :=
  ⟨rfl, rfl, rfl, by rw [Lib.iterAt_size]; exact Nat.le_refl _, fun q _ hq => Lib.iterAt_other w K q s p hq⟩
theorem rune_dv (s : ByteArray) (k : Nat) (h : k < s.size) : Oct.dv (Utf8.decode s k).1 = Oct.dv (s.data.toList.getD k 0).toNat ∧ (0 ≤ Oct.dv (s.data.toList.getD k 0).toNat → (Utf8.decode s k).2 = 1) := by
  have e : s.data.toList.getD k 0 = s[k]'h := by
    rw [List.getD, List.getElem?_eq_getElem (by simpa using h)]; rfl
  rw [e]
  by_cases ha : (s[k]'h).toNat < 128
  · rw [decode_ascii s k h ha]; exact ⟨rfl, fun _ => rfl⟩
  · have hh := (decode_high s k h (by omega)).1
    rw [Oct.dv_high _ hh, Oct.dv_high _ (by omega)]
    exact ⟨rfl, fun h0 => by omega⟩
theorem prOk_bad (l : List UInt8) (k : Nat) (h : k < l.length) (hd : ¬ 0 ≤ Oct.dv (l.getD k 0).toNat) : Oct.prB l = [] ∧ Oct.prE l = 4 := by
  have : Oct.prOk l = false := by
    unfold Oct.prOk
    rw [Bool.and_eq_false_iff]
    right
    rw [List.all_eq_false]
    refine ⟨l[k], List.getElem_mem h, ?_⟩
    unfold Oct.isD
    rw [List.getD, List.getElem?_eq_getElem h] at hd
    simpa using hd
  constructor
  · unfold Oct.prB; rw [this]; rfl
  · unfold Oct.prE; rw [this]; rfl
theorem prOk_good (l : List UInt8) (h : l.length % 2 = 0) (hd : ∀ j, j < l.length → 0 ≤ Oct.dv (l.getD j 0).toNat) : Oct.prB l = Oct.prs l ∧ Oct.prE l = 0 := by
  have : Oct.prOk l = true := by
    unfold Oct.prOk
    rw [h]
    simp only [beq_self_eq_true, Bool.true_and]
    rw [List.all_eq_true]
    intro c hc
    obtain ⟨j, hj, rfl⟩ := List.mem_iff_getElem.1 hc
    have := hd j hj
    rw [List.getD, List.getElem?_eq_getElem hj] at this
    unfold Oct.isD
    simpa using this
  constructor
  · unfold Oct.prB; rw [this]; rfl
  · unfold Oct.prE; rw [this]; rfl

end Go.Proofs.YtmhjddmamknglaaGreat
end

section
namespace Go.Proofs.YtmhjddmamknglaaGreat
set_option maxRecDepth 100000
set_option linter.unusedSimpArgs false
set_option linter.unusedVariables false
open Go.RowKit

theorem oxor_get (a b : List UInt8) (j : Nat) (h : j < a.length) : (Oct.xor a b).getD j 0 = a.getD j 0 ^^^ b.getD j 0 := by
  rw [List.getD, List.getElem?_eq_getElem (by simpa [Oct.xor] using h)]; simp [Oct.xor]
/-- The first k bytes of l, zeros behind them. -/
def upTo (l : List UInt8) (k : Nat) : List UInt8 := (List.range l.length).map fun j => if j < k then l.getD j 0 else 0
theorem upTo_zero (l : List UInt8) : upTo l 0 = zs l.length := by
  unfold upTo zs
  apply List.ext_getElem
  · simp
  · intro j h1 h2; simp
theorem upTo_full (l : List UInt8) : upTo l l.length = l := by
  apply List.ext_getElem
  · simp [upTo]
  · intro j h1 h2; simp [upTo, List.getD, h2]
theorem upTo_length (l : List UInt8) (k : Nat) : (upTo l k).length = l.length := by simp [upTo]
theorem upTo_set (l : List UInt8) (k : Nat) : (upTo l k).set k (l.getD k 0) = upTo l (k + 1) := by
  apply List.ext_getElem
  · simp [upTo]
  · intro i h1 h2
    rw [List.getElem_set]
    simp only [upTo, List.getElem_map, List.getElem_range]
    by_cases e : k = i
    · subst e; simp
    · rw [if_neg e]
      by_cases h : i < k
      · rw [if_pos h, if_pos (by omega)]
      · rw [if_neg h, if_neg (by omega)]
/-- The last k bytes of l, zeros ahead of them. -/
def lastK (l : List UInt8) (k : Nat) : List UInt8 := (List.range l.length).map fun j => if l.length - k ≤ j then l.getD j 0 else 0
theorem lastK_zero (l : List UInt8) : lastK l 0 = zs l.length := by
  unfold lastK zs
  apply List.ext_getElem
  · simp
  · intro j h1 h2
    have : j < l.length := by simpa using h2
    simp
    intro h3; omega
theorem lastK_full (l : List UInt8) : lastK l l.length = l := by
  apply List.ext_getElem
  · simp [lastK]
  · intro j h1 h2; simp [lastK, List.getD, List.getElem?_eq_getElem h2]
theorem lastK_length (l : List UInt8) (k : Nat) : (lastK l k).length = l.length := by simp [lastK]
theorem lastK_set (l : List UInt8) (k : Nat) (h : k < l.length) : (lastK l k).set (l.length - 1 - k) (l.getD (l.length - 1 - k) 0) = lastK l (k + 1) := by
  apply List.ext_getElem
  · simp [lastK]
  · intro i h1 h2
    rw [List.getElem_set]
    simp only [lastK, List.getElem_map, List.getElem_range]
    by_cases e : l.length - 1 - k = i
    · subst e; rw [if_pos rfl, if_pos (by omega)]
    · rw [if_neg e]
      by_cases h : l.length - k ≤ i
      · rw [if_pos h, if_pos (by omega)]
      · rw [if_neg h, if_neg (by omega)]

def xrE (a b : List UInt8) : Int := if a.length = b.length then 0 else 1
def xrB (a b : List UInt8) : List UInt8 := if a.length = b.length then Oct.xor a b else []

theorem unp_none (bs : List UInt8) (h : Oct.unp bs = none) : Oct.unpB bs = [] ∧ Oct.unpE bs = 4 := by
  unfold Oct.unpB Oct.unpE; rw [h]; exact ⟨rfl, rfl⟩
theorem unp_some (bs l : List UInt8) (h : Oct.unp bs = some l) : Oct.unpB bs = l ∧ Oct.unpE bs = 0 := by
  unfold Oct.unpB Oct.unpE; rw [h]; exact ⟨rfl, rfl⟩
theorem byte_eq (x : UInt8) (m : Nat) (hm : m < 256) : (x = UInt8.ofNat m) ↔ x.toNat = m := by
  constructor
  · rintro rfl; exact UInt8.toNat_ofNat_of_lt' (by simpa [UInt8.size] using hm)
  · intro h; apply UInt8.toNat_inj.1; rw [h]; exact (UInt8.toNat_ofNat_of_lt' (by simpa [UInt8.size] using hm)).symm

end Go.Proofs.YtmhjddmamknglaaGreat
end

section
namespace Go.Proofs.YtmhjddmamknglaaGreat
set_option maxRecDepth 100000
set_option linter.unusedSimpArgs false
set_option linter.unusedVariables false
open Go.RowKit

theorem pt_arg (n width : Int) (h : width < 1 ∨ 8 < width) : Oct.ptB n width = [] ∧ Oct.ptE n width = 1 := by
  have e : Oct.ptE n width = 1 := by unfold Oct.ptE; rw [if_pos h]
  exact ⟨by unfold Oct.ptB; rw [e]; rfl, e⟩
theorem pt_range (n : Int) (m : Nat) (h1 : 1 ≤ m) (h8 : m ≤ 8) (h : n < 0 ∨ (256 : Int) ^ m ≤ n) : Oct.ptB n (m : Int) = [] ∧ Oct.ptE n (m : Int) = 2 := by
  have e : Oct.ptE n (m : Int) = 2 := by unfold Oct.ptE; rw [if_neg (by omega), if_pos (by simpa using h)]
  exact ⟨by unfold Oct.ptB; rw [e]; rfl, e⟩
theorem pt_ok (n m : Nat) (h1 : 1 ≤ m) (h8 : m ≤ 8) (h : n < 256 ^ m) : Oct.ptB (n : Int) (m : Int) = Oct.putB n m ∧ Oct.ptE (n : Int) (m : Int) = 0 := by
  have hi : (n : Int) < (256 : Int) ^ m := by have : ((n : Nat) : Int) < ((256 ^ m : Nat) : Int) := by omega
                                              simpa using this
  have e : Oct.ptE (n : Int) (m : Int) = 0 := by unfold Oct.ptE; rw [if_neg (by omega), if_neg (by simp only [Int.toNat_natCast]; omega)]
  exact ⟨by unfold Oct.ptB; rw [if_pos e]; simp, e⟩

theorem pow8 (m : Nat) : 2 ^ (8 * m) = 256 ^ m := by rw [Nat.pow_mul]
theorem shr8 (k m : Nat) : ((k : Int) / 2 ^ (8 * m)) = ((k / 256 ^ m : Nat) : Int) := by
  rw [← pow8]; simp
theorem shr8_ne (k m : Nat) : ((k : Int) / 2 ^ (8 * m) != 0) = decide (256 ^ m ≤ k) := by
  rw [shr8]
  have hp : 0 < 256 ^ m := Nat.pow_pos (by omega)
  by_cases h : 256 ^ m ≤ k
  · have := (Nat.le_div_iff_mul_le hp (x := 1) (y := k)).2 (by omega)
    simp only [h, decide_true, bne_iff_ne]
    omega
  · rw [Nat.div_eq_of_lt (by omega)]; simp [h]

/-- A number below 2^64 as an int. -/
def sg (n : Nat) : Int := if n < 9223372036854775808 then (n : Int) else (n : Int) - 18446744073709551616
theorem sg_small (n : Nat) (h : n < 9223372036854775808) : sg n = (n : Int) := by unfold sg; rw [if_pos h]
theorem sg_big (n : Nat) (h : 9223372036854775808 ≤ n) (h2 : n < 18446744073709551616) : sg n < 0 := by unfold sg; rw [if_neg (by omega)]; omega
theorem numK_56 (b : List UInt8) (k : Nat) (h : k ≤ 7) : Oct.numK b k < 72057594037927936 :=
  Nat.lt_of_lt_of_le (Oct.numK_lt b k) (Nat.le_trans (Nat.pow_le_pow_right (by omega) h) (by decide))
theorem or_get (n x : Nat) (hn : n < 72057594037927936) (hx : x < 256) : bits BinOp.or IntKind.i64 (wrap64 ((n : Int) * 256)) (x : Int) = sg (n * 256 + x) := by
  have e1 : (BitVec.ofInt 64 (wrap64 ((n : Int) * 256))).toNat = n * 256 := by
    rw [BitVec.toNat_ofInt]
    simp only [wrap64]
    omega
  have e2 : (BitVec.ofInt 64 (x : Int)).toNat = x := by
    rw [BitVec.ofInt_natCast, BitVec.toNat_ofNat]; omega
  show IntKind.i64.wrap ((BitVec.ofInt 64 (wrap64 ((n : Int) * 256)) ||| BitVec.ofInt 64 (x : Int)).toNat : Int) = _
  rw [BitVec.toNat_or, e1, e2, nat_join 8 _ _ (by omega) (by omega), IntKind.wrap_i64]
  unfold sg
  split <;> omega
theorem gt_long (b : List UInt8) (h : 8 < b.length) : Oct.gtN b = 0 ∧ Oct.gtE b = 3 := by
  have e : Oct.gtE b = 3 := by unfold Oct.gtE; rw [if_pos h]
  exact ⟨by unfold Oct.gtN; rw [e]; rfl, e⟩
theorem gt_big (b : List UInt8) (h : b.length ≤ 8) (hb : 9223372036854775808 ≤ Oct.num b) : Oct.gtN b = 0 ∧ Oct.gtE b = 2 := by
  have e : Oct.gtE b = 2 := by unfold Oct.gtE; rw [if_neg (by omega), if_pos hb]
  exact ⟨by unfold Oct.gtN; rw [e]; rfl, e⟩
theorem gt_ok (b : List UInt8) (h : b.length ≤ 8) (hb : Oct.num b < 9223372036854775808) : Oct.gtN b = Oct.num b ∧ Oct.gtE b = 0 := by
  have e : Oct.gtE b = 0 := by unfold Oct.gtE; rw [if_neg (by omega), if_neg (by omega)]
  exact ⟨by unfold Oct.gtN; rw [if_pos e], e⟩

end Go.Proofs.YtmhjddmamknglaaGreat
end

section
namespace Go.Proofs.YtmhjddmamknglaaGreat
set_option maxRecDepth 100000
set_option linter.unusedSimpArgs false
set_option linter.unusedVariables false
open Go.RowKit

set_option maxRecDepth 100000 in
set_option maxHeartbeats 4000000 in
theorem slices_Grow_nil (n : Nat) (w : World) (hn : n ≤ 1099511627776) :
    Calls Tryz.prog 69 #[.slice none 0 0, .int .i64 (n : Int)] w fun e w' => ∃ A2 c2, e = .returned (.slice A2 0 c2) ∧ Own w' w.heap.size 5 1 A2 0 c2 (bcells []) ∧ Below w.heap.size w w' := by
  obtain ⟨ti, hti, hz0, hz1, hz2⟩ := info_parts o_u8
  have n0 : ¬ (n : Int) < 0 := by omega
  rcases Nat.eq_zero_or_pos n with rfl | hpos
  · go_enter Tryz.func69, Tryz.ntmps69
    go_wp2_with fail
    go_ret
    exact ⟨none, 0, rfl, Own.none_ _ _ _ _ _, Below.refl _ _⟩
  · have n1 : (0 : Int) < (n : Int) := by omega
    have hG1 := grownCap_ge w n 0 5
    have hG2 := grownCap_le_maxLen w n 0 5 (by unfold maxLen; omega)
    have hrz : ∀ ty, (Builtin.append_ #[33, 3] ty #[.slice none 0 0, .int .i64 (n : Int)]).run Tryz.prog w = .ok (.slice (some ⟨w.heap.size, 0, none⟩) n (grownCap w n 0 5)) (w.drew.alloc (.cells (#[] ++ Builtin.zeroCells (Value.int .u8 0).cells n ++ Builtin.zeroCells (Value.int .u8 0).cells (grownCap w n 0 5 - n)) 5)) := fun ty => by
      have h := Lib.run_append_grow_zeros w 33 3 ty 5 ti _ .i64 .i64 Tryz.underlying33 Tryz.underlying3 hti hz0 none 0 0 [] (run_firstCells_none w.drew ti.size 0 0 0) n hpos (by rw [hz1]; omega) (by omega) (by omega) (by rw [hz2]; omega) (growslice_fits (by omega) (by rw [hz2]; omega))
      simpa using h
    generalize grownCap w n 0 5 = G at *
    have hG3 : G ≤ 9223372036854775807 := by unfold maxLen at hG2; omega
    have HB := Lib.hid (fun o => (Below.refl w.heap.size w).alloc (Nat.le_refl _) o)
    have HO : Own (w.alloc (.cells (Builtin.zeroCells #[Value.int .u8 0] n ++ Builtin.zeroCells #[Value.int .u8 0] (G - n)) 5)) w.heap.size 5 1 (some ⟨w.heap.size, 0, none⟩) 0 G (bcells []) := by
      have := Own.blk (s := 1) (n := 0) (c := G) (Blk.new w 5 (Builtin.zeroCells #[Value.int .u8 0] n ++ Builtin.zeroCells #[Value.int .u8 0] (G - n))) (Nat.le_refl _) (Nat.zero_le _) hG2 (by simp [Builtin.zeroCells]; omega) (by simp)
      simpa [bcells] using this
    have HO := Lib.hid HO
    go_enter Tryz.func69, Tryz.ntmps69
    go_wp2_with (at_builtin; refine Lib.wpList_append_run _ rfl _ _ _ _ rfl _ _ rfl rfl _ _ (hrz _) ?_)
    go_ret
    exact ⟨_, _, rfl, HO.out.drew, (HB.out _).drew⟩

set_option maxRecDepth 100000 in
set_option maxHeartbeats 4000000 in
theorem slices_Concat (A : Option Addr) (n c : Nat) (vs : List SV) (w : World) (h : Byts w w.heap.size A vs) (hn : vs.length = n) (hm : n ≤ 9223372036854775807) (ht : (joined vs).length ≤ 1099511627776) :
    Calls Tryz.prog 53 #[.slice A n c] w fun e w' => ∃ A2 c2, e = .returned (.slice A2 (joined vs).length c2) ∧ Own w' w.heap.size 5 1 A2 (joined vs).length c2 (bcells (joined vs)) ∧ Below w.heap.size w w' := by
  obtain ⟨ti, hti, hz0, hz1, hz2⟩ := info_parts o_u8
  have hl := Lib.hid hn
  clear hn
  go_enter Tryz.func53, Tryz.ntmps53
  go_wp2_with fail
  go_loopg [3, 11] n (fun g v i wr => ∃ k : Nat, k + g = n ∧ i = .int .i64 k ∧ v = .int .i64 ((joined (vs.take k)).length : Nat) ∧ w = wr)
  case atStart => exact ⟨0, by omega, rfl, rfl, rfl⟩
  case round =>
    obtain ⟨k, hk, rfl, rfl, rfl⟩ := hrel
    cases gk with
    | succ g =>
      have hkv : k < vs.length := by rw [hl.out]; omega
      obtain ⟨b, o, rfl, hc, hy⟩ := h.at_ hkv
      have jt := Lib.hid (joined_take vs k hkv)
      have j1 := joined_le vs (k + 1)
      rw [jt.out, List.length_append] at j1
      generalize vs[k] = x at *
      have p0 : (0 : Int) ≤ (k : Int) := by omega
      have p1 : (k : Int) < (n : Int) := by omega
      have j2 : x.bs.length = x.n := hy.1
      rw [j2] at j1
      have J2 := Lib.hid j2
      clear j2
      have j3 : (joined (vs.take k)).length + x.n ≤ 1099511627776 := by omega
      have j4 : ¬ (((joined (vs.take k)).length : Int) + (x.n : Int) < 0) := by omega
      clear j1
      have JJ : Hid ((joined (vs.take (k + 1))).length = (joined (vs.take k)).length + x.n) := by show _ = _; rw [jt.out, List.length_append, J2.out]
      generalize (joined (vs.take k)).length = m at *
      go_wp2_with fail
      go_roundg g
      case measure => omega
      case rel => exact ⟨k + 1, by omega, by go_num, by rw [JJ.out]; go_num, rfl⟩
    | zero =>
      obtain rfl : k = n := by omega
      have e1 : vs.take k = vs := List.take_of_length_le (by rw [hl.out]; omega)
      rw [e1]
      go_wp2_with (go_at_call 69; refine (slices_Grow_nil _ _ ht).mono ?_; rintro e w1 ⟨A1, c1, rfl, hown1, hb1⟩)
      go_loopg [6, 27] k (fun g v i wr => ∃ (j : Nat) (A2 : Option Addr) (m c2 : Nat), j + g = k ∧ i = .int .i64 j ∧ v = .slice A2 m c2 ∧ Hid (m = (joined (vs.take j)).length) ∧ Own wr w.heap.size 5 1 A2 m c2 (bcells (joined (vs.take j))) ∧ Below w.heap.size w wr)
      case atStart => exact ⟨0, A1, 0, c1, by omega, rfl, rfl, rfl, hown1, hb1⟩
      case round =>
        clear hown1 hb1
        obtain ⟨j, A2, m, c2, hj, rfl, rfl, hM, hown, hbw⟩ := hrel
        cases gk with
        | zero =>
          obtain rfl : j = k := by omega
          rw [e1] at hM hown
          go_wp2_with fail
          go_ret
          rw [← hM.out]
          exact ⟨A2, c2, rfl, hown, hbw⟩
        | succ g =>
          clear e1
          have hkv : j < vs.length := by rw [hl.out]; omega
          obtain ⟨b, o, rfl, hc, hy⟩ := (h.below hbw).at_ hkv
          have jt := Lib.hid (joined_take vs j hkv)
          have j1 := joined_le vs (j + 1)
          rw [jt.out, List.length_append] at j1
          generalize vs[j] = x at *
          have p0 : (0 : Int) ≤ (j : Int) := by omega
          have p1 : (j : Int) < (k : Int) := by omega
          have j2 : x.bs.length = x.n := hy.1
          have j3 : m + x.n ≤ 1099511627776 := by rw [hM.out, ← j2]; omega
          clear j1
          have J2 := Lib.hid j2
          clear j2
          go_wp2_with (at_builtin; refine wpList_append _ rfl (.tmp 31) (.tmp 32) 33 rfl w.heap.size 5 ti _ 1 1 Tryz.underlying33 hti hz0 hz1 hz2 rfl (by omega) A2 m c2 _ rfl hown w.heap.size x.a x.n x.c (bcells x.bs) rfl hy.2.2 (by rw [length_bcells, J2.out]; omega) (bcells_one _) (by unfold maxLen; omega) (by omega) hbw.size ?_; intro A3 c3 w4 hown4 hg4 hat4)
          go_roundg g
          case measure => omega
          case rel => exact ⟨j + 1, A3, _, c3, by omega, by go_num, rfl, by rw [jt.out, List.length_append, J2.out]; exact congrArg (· + x.n) hM.out, by rw [jt.out, bcells_append]; exact hown4, hown.grown hg4 hbw hbw.size⟩
end Go.Proofs.YtmhjddmamknglaaGreat
end

section
namespace Go.Proofs.YtmhjddmamknglaaGreat
set_option maxRecDepth 100000
set_option linter.unusedSimpArgs false
set_option linter.unusedVariables false
open Go.RowKit

def mentsFrom (i : Nat) : List (Int × Value) → List MapEntry
  | [] => []
  | x :: l => ⟨.int .i64 x.1, x.2, i⟩ :: mentsFrom (i + 1) l
theorem mentsFrom_append (i : Nat) (l r : List (Int × Value)) : mentsFrom i (l ++ r) = mentsFrom i l ++ mentsFrom (i + l.length) r := by
  induction l generalizing i with
  | nil => simp [mentsFrom]
  | cons x l ih => simp [mentsFrom, ih, Nat.add_assoc, Nat.add_comm 1]
/-- Block b is a map with these entries, the eldest first. -/
def MapI (w : World) (b : Nat) (l : List (Int × Value)) : Prop := w.heap[b]? = some (.map (mentsFrom 0 l).toArray l.length)
def assocI (x : Int) : List (Int × Value) → Option Value
  | [] => none
  | y :: l => if x = y.1 then some y.2 else assocI x l
theorem assocI_none {x : Int} {l : List (Int × Value)} (h : assocI x l = none) : ∀ y ∈ l, y.1 ≠ x := by
  induction l with
  | nil => intro y hy; cases hy
  | cons z l ih =>
    unfold assocI at h
    split at h
    · cases h
    · rename_i hne
      intro y hy
      rcases List.mem_cons.1 hy with rfl | hy
      · exact fun e => hne e.symm
      · exact ih h y hy
theorem findNow_int (x : Int) (l : List (Int × Value)) : ∀ i j, (Instr.findNow (.int .i64) (.int .i64 x) (mentsFrom j l) i = some none ∧ assocI x l = none) ∨ ∃ k v, Instr.findNow (.int .i64) (.int .i64 x) (mentsFrom j l) i = some (some (k, v)) ∧ assocI x l = some v := by
  induction l with
  | nil => intro i j; exact .inl ⟨rfl, rfl⟩
  | cons y l ih =>
    intro i j
    unfold mentsFrom Instr.findNow Instr.sameNow assocI
    simp only [if_true]
    by_cases h : x = y.1
    · right
      have : (x == y.1) = true := by rw [beq_iff_eq]; exact h
      rw [this, if_pos h]
      exact ⟨i, y.2, rfl, rfl⟩
    · have : (x == y.1) = false := by rw [beq_eq_false_iff_ne]; exact h
      rw [this, if_neg h]
      exact ih (i + 1) (j + 1)
section
variable {P : Program} {w : World} {b : Nat} {l : List (Int × Value)} {t k e : TypeId}
theorem run_lookupI (hm : MapI w b l) (ht : P.underlying t = some (.map k e)) (hk : P.underlying k = some (.int .i64)) {z : Value} (hz : (zeroValue e).run P w = .ok z w) (x : Int) (hw : (Lit.int .i64 x).wf = true) (c : Bool) :
    (Instr.lookup t (.map (some b)) (.int .i64 x) c).run P w = .ok (match assocI x l with | some v => if c then .tuple #[v, .bool true] else v | none => if c then .tuple #[z, .bool false] else z) w := by
  have hck : ∀ em, (Instr.checkKey em 10000 k (.int .i64 x)).run P w = .ok () w := fun em => (Maps.int_keyed hk).check w em (Maps.keyOf_int_mk hk hw)
  rcases findNow_int x l 0 0 with ⟨h1, h2⟩ | ⟨i, v, h1, h2⟩
  · have hf : (Instr.findKey k (.int .i64 x) (mentsFrom 0 l)).run P w = .ok none w := by simp [Instr.findKey, run_underlying hk, h1]
    rw [h2]
    cases c <;> simp [Instr.lookup, run_underlying ht, MapKept.run_getObj_map hm, hck, hf, hz, Result.andThen]
  · have hf : (Instr.findKey k (.int .i64 x) (mentsFrom 0 l)).run P w = .ok (some (i, v)) w := by simp [Instr.findKey, run_underlying hk, h1]
    rw [h2]
    cases c <;> simp [Instr.lookup, run_underlying ht, MapKept.run_getObj_map hm, hck, hf, Result.andThen]
/-- A new key. -/
theorem run_updateI (hm : MapI w b l) (ht : P.underlying t = some (.map k e)) (hk : P.underlying k = some (.int .i64)) (x : Int) (hw : (Lit.int .i64 x).wf = true) (hx : assocI x l = none) (v : Value) :
    ∃ w', (Instr.mapUpdate t (.map (some b)) (.int .i64 x) v).run P w = .ok () w' ∧ MapI w' b (l ++ [(x, v)]) ∧ w.grownBy w' (some b) := by
  have hck : ∀ em, (Instr.checkKey em 10000 k (.int .i64 x)).run P w = .ok () w := fun em => (Maps.int_keyed hk).check w em (Maps.keyOf_int_mk hk hw)
  rcases findNow_int x l 0 0 with ⟨h1, h2⟩ | ⟨i, v', h1, h2⟩
  · have hf : (Instr.findKey k (.int .i64 x) (mentsFrom 0 l)).run P w = .ok none w := by simp [Instr.findKey, run_underlying hk, h1]
    refine ⟨ChangeMaps.setBlock w b (.map ((mentsFrom 0 l).toArray.push ⟨.int .i64 x, v, l.length⟩) (l.length + 1)), ?_, ?_, ⟨rfl, rfl, rfl, by simp [ChangeMaps.setBlock], fun i _ hi => ChangeMaps.heap_setBlock_other hm _ (fun e => hi (by rw [e]))⟩⟩
    · simp [Instr.mapUpdate, run_underlying ht, MapKept.run_getObj_map hm, hck, hf, MapKept.run_setObj_map _ hm, Result.andThen, ChangeMaps.setBlock]
    · unfold MapI
      rw [ChangeMaps.heap_setBlock_same hm]
      simp [mentsFrom_append, mentsFrom]
  · rw [hx] at h2; cases h2
theorem MapI.lt (hm : MapI w b l) : b < w.heap.size := (Array.getElem?_eq_some_iff.1 hm).1
theorem MapI.sup (hm : MapI w b l) : Sup w (fun q => q = b) (fun u => MapI u b l) :=
  ⟨hm, fun q e => e ▸ hm.lt, fun R w' ho hd => (ho.block b hm.lt (hd b rfl)).trans hm⟩
theorem MapI.made (w : World) : MapI (w.alloc (.map #[] 0)) w.heap.size [] := (MapKept.heap_alloc w _).1
end
end Go.Proofs.YtmhjddmamknglaaGreat
end

section
namespace Go.Proofs.YtmhjddmamknglaaGreat
set_option maxRecDepth 100000
set_option linter.unusedSimpArgs false
set_option linter.unusedVariables false
open Go.RowKit

theorem Mem.openB {R : Nat → Prop} {s w : World} {L : List Ent} {t : TypeId} {A : Option Addr} {n c : Nat} {bs : List UInt8} (hm : Mem R s w L [⟨t, 1, A, n, c, bcells bs⟩]) (h0 : 0 < n) :
    ∃ (q : Nat) (cs : Array Value), A = some ⟨q, 0, none⟩ ∧ cs.toList.take n = bcells bs ∧ n ≤ cs.size ∧ n ≤ c ∧ Mem R s w (⟨q, t, cs⟩ :: L) [] := by
  have hs := hm.sl_ 0 rfl
  have hle := hs.2.1
  dsimp only at hle
  obtain ⟨q, cur, e, _, hh, hc, ht⟩ := hs.2.2.2 (by show 0 < c; omega)
  dsimp only at e hh hc ht
  have ho : ownAt A c = some q := by unfold ownAt; rw [if_neg (by omega), e]; rfl
  have h1 : Mem R s w L [] := hm.less (O := [])
  refine ⟨q, cur, e, by simpa using ht, by omega, hle, ?_⟩
  exact h1.cons hh (hm.slR _ (List.mem_singleton_self _) q ho) (fun e2 he e3 => hm.slL _ (List.mem_singleton_self _) e2 he (by rw [ho, e3])) (fun x hx => by cases hx)
theorem cell_of_take {cs : Array Value} {n : Nat} {bs : List UInt8} (h : cs.toList.take n = bcells bs) {i : Nat} (hi : i < bs.length) : cs[i]? = some (B8 (bs.getD i 0)) := by
  have h1 : (cs.toList.take n)[i]? = some (B8 (bs.getD i 0)) := by rw [h, bcells_get]; simp [List.getD, hi]
  rw [List.getElem?_take] at h1
  split at h1
  · rw [← h1]; simp
  · cases h1
theorem take_spl {cs : Array Value} {n : Nat} {bs : List UInt8} (h : cs.toList.take n = bcells bs) {i : Nat} (hi : i < bs.length) (b : UInt8) : (spl cs i #[B8 b]).toList.take n = bcells (bs.set i b) := by
  have hl : i < cs.toList.length := by
    have h1 : (cs.toList.take n).length = bs.length := by rw [h, length_bcells]
    rw [List.length_take] at h1
    omega
  have e : (spl cs i #[B8 b]).toList = cs.toList.set i (B8 b) := by
    rw [List.set_eq_take_append_cons_drop, if_pos hl]
    simp [spl]
  rw [e, List.take_set, h]
  simp [bcells, List.map_set]
theorem byt_of_take {w : World} {q : Nat} {t : TypeId} {cs : Array Value} {n c : Nat} {bs : List UInt8} (h : Blk w q t cs) (ht : cs.toList.take n = bcells bs) (hn : bs.length = n) (hc : n ≤ c) : Byt w w.heap.size (some ⟨q, 0, none⟩) n c bs :=
  ⟨hn, hc, by have := h.row.take n; rwa [ht] at this⟩
theorem Scn.entVal {w0 w : World} {L : List Ent} {O : List Osl} {Fs Vs : List Thing} {q : Nat} {t : TypeId} {cs : Array Value} {n c : Nat} {bs : List UInt8} (h : Scn w0 w (⟨q, t, cs⟩ :: L) O Fs Vs) (hb : Byt w w.heap.size (some ⟨q, 0, none⟩) n c bs) :
    Scn w0 w L O Fs (Vs ++ [⟨blks #[.slice (some ⟨q, 0, none⟩) n c], fun u => Byt u u.heap.size (some ⟨q, 0, none⟩) n c bs⟩]) := by
  have h2 := h.part (List.sublist_cons_self _ _) (List.Sublist.refl O) (List.Sublist.refl Vs)
  refine ⟨h2.cal, h2.fs, fun x hx => ?_⟩
  rcases List.mem_append.1 hx with hx | hx
  · exact h2.vs x hx
  · obtain rfl := List.mem_singleton.1 hx
    have key : ∀ p, blks #[.slice (some ⟨q, 0, none⟩) n c] p → p = q := by
      intro p hp
      obtain ⟨A', n', c', a, hm, hn, e, rfl⟩ := hp
      simp at hm
      obtain ⟨rfl, rfl, rfl⟩ := hm
      cases e; rfl
    refine ⟨bytSup hb, fun y hy p hp hp2 => ?_, fun e he hp2 => ?_⟩
    · have := key p hp2
      subst this
      exact h.cal.dl _ (List.mem_map.2 ⟨y, hy, rfl⟩) _ (List.mem_cons_self) hp
    · have hd := h.cal.mem.diff
      rw [List.map_cons, List.nodup_cons] at hd
      exact hd.1 (List.mem_map.2 ⟨e, he, key _ hp2⟩)
end Go.Proofs.YtmhjddmamknglaaGreat
end

section
namespace Go.Proofs.YtmhjddmamknglaaGreat
set_option maxRecDepth 100000
set_option linter.unusedSimpArgs false
set_option linter.unusedVariables false
open Go.RowKit

/-- A slice of ints: n of them, capacity c. -/
def Ints (w : World) (B : Nat) (A : Option Addr) (n c : Nat) (xs : List Int) : Prop := xs.length = n ∧ n ≤ c ∧ Row w B A (xs.map I64)
section
variable {w w' : World} {B B' : Nat} {A : Option Addr} {n c : Nat} {xs : List Int}
theorem Ints.below (h : Ints w B A n c xs) (hb : Below B w w') : Ints w' B A n c xs := ⟨h.1, h.2.1, h.2.2.below hb⟩
theorem Ints.more (h : Ints w B A n c xs) (hB : B ≤ B') : Ints w B' A n c xs := ⟨h.1, h.2.1, h.2.2.more hB⟩
theorem Ints.at_ (h : Ints w B A n c xs) {k : Nat} (hk : k < n) : ∃ b o, A = some ⟨b, o, none⟩ ∧ b < B ∧ w.cell? ⟨b, o + k, none⟩ = some (.int .i64 (xs.getD k 0)) := by
  have hl : k < xs.length := by rw [h.1]; exact hk
  obtain ⟨b, o, e, hb, hc⟩ := h.2.2.at_ (j := k) (by simpa using hl)
  exact ⟨b, o, e, hb, by rw [hc]; simp [List.getD, List.getElem?_eq_getElem hl]⟩
end
theorem ints_of_row {w : World} {a : Option Addr} {len cap : Nat} {zs : List Int}
    (h : (a = none ∧ len = 0 ∧ cap = 0 ∧ zs = []) ∨ ∃ x, a = some x ∧ len ≤ cap ∧ cap ≤ maxLen ∧ zs.length = cap ∧ (∀ i, i < zs.length → w.cell? (x.add i) = some (.int .i64 (zs.getD i 0))) ∧ ∀ n ∈ zs, (Lit.int .i64 n).wf = true) :
    ∃ xs, Ints w w.heap.size a len cap xs ∧ cap ≤ maxLen ∧ ∀ n ∈ xs, (Lit.int .i64 n).wf = true := by
  rcases h with ⟨rfl, rfl, rfl, rfl⟩ | ⟨x, rfl, hl, hm, hz, hc, hw⟩
  · exact ⟨[], ⟨rfl, Nat.le_refl _, Row.nil _ _ _⟩, Nat.zero_le _, fun n hn => by cases hn⟩
  · refine ⟨zs.take len, ⟨by simp; omega, hl, fun hn => ?_⟩, hm, fun n hn => hw n (List.mem_of_mem_take hn)⟩
    have hn' : 0 < len := by simp at hn; omega
    have hc0 := hc 0 (by omega)
    have hx0 : x.add 0 = x := by unfold Addr.add; simp
    rw [hx0] at hc0
    obtain ⟨b, o, s⟩ := x
    have hs : s = none := by
      cases s with
      | none => rfl
      | some q => simp only [World.cell?] at hc0; split at hc0 <;> simp at hc0
    subst hs
    refine ⟨b, o, rfl, World.block_lt_of_cell? w _ hc0, fun j hj => ?_⟩
    rw [List.length_map, List.length_take] at hj
    have hj' : j < zs.length := by omega
    have h1 := hc j hj'
    rw [add_eq] at h1
    rw [h1, List.getElem?_map, List.getElem?_take, if_pos (by omega), List.getElem?_eq_getElem hj']
    simp only [List.getD, List.getElem?_eq_getElem hj', Option.getD_some, Option.map_some, I64]
end Go.Proofs.YtmhjddmamknglaaGreat
end

section
namespace Go.Proofs.YtmhjddmamknglaaGreat
set_option maxRecDepth 100000
set_option linter.unusedSimpArgs false
set_option linter.unusedVariables false
open Go.RowKit Go.ChangeShapes Go.WideShapes Go.Deep

theorem ints_of_trod {H : Type} {enc : TypeId × Value → H} {w : World} {base : Nat} {spare : Nat → Bool} {held : Bool} {A : Option Addr} {n c : Nat} {d : DataW H} {p : List MemPlace}
    (h : DataW.Trod enc Tryz.prog w base spare held 64 (.slice A n c) d p) : ∃ xs : List Int, (Ints w w.heap.size A n c xs ∧ ∀ z ∈ xs, (Lit.int .i64 z).wf = true) ∧ c ≤ maxLen := by
  obtain ⟨fuel, hf⟩ := h
  rcases flat_slice (k := 1) (ts := [3]) Tryz.underlying64 (by kernel_rfl) hf with hcs | ⟨a, len, cap, hcs, hl, hm, hr⟩
  · simp [Value.cells] at hcs
    obtain ⟨rfl, rfl, rfl⟩ := hcs
    exact ⟨[], ⟨⟨rfl, Nat.le_refl _, Row.nil _ _ _⟩, fun z hz => (by cases hz)⟩, Nat.zero_le _⟩
  · simp [Value.cells] at hcs
    obtain ⟨rfl, rfl, rfl⟩ := hcs
    have hC : Tryz.prog.cellsOf 3 = 1 := by kernel_rfl
    rw [hC] at hr
    obtain ⟨l, h1, h2, h3⟩ := recs_of (cells := fun z : Int => [I64 z]) (s := 1) (n := n) (w := w) (a := a) (G := fun z => (Lit.int .i64 z).wf = true) (fun x => ⟨_, rfl⟩) (fun i hi => by
      obtain ⟨v0, c0, t0⟩ := hr i hi 0 _ rfl
      obtain ⟨z, rfl, hz⟩ := t0.int Tryz.underlying3
      refine ⟨z, fun j v hv => ?_, by simpa [Lit.wf, IntKind.min, IntKind.max, IntKind.signed, IntKind.bits] using hz⟩
      match j, hv with
      | 0, hv => injection hv with hv; subst hv; exact c0
      | j + 1, hv => simp at hv)
    refine ⟨l, ⟨⟨h1, hl, fun hn => ?_⟩, h3⟩, hm⟩
    obtain ⟨b, o, e, hb, hc⟩ := h2 (by simpa using hn)
    refine ⟨b, o, e, hb, fun j hj => ?_⟩
    have hjl : j < l.length := by simpa using hj
    have := hc j _ (List.getElem?_eq_getElem hjl) 0 _ rfl
    rw [show j * 1 + 0 = j by omega] at this
    rw [this, List.getElem?_map, List.getElem?_eq_getElem hjl]
    rfl
end Go.Proofs.YtmhjddmamknglaaGreat
end

section
namespace Go.Proofs.YtmhjddmamknglaaGreat
set_option maxRecDepth 100000
set_option linter.unusedSimpArgs false
set_option linter.unusedVariables false
open Go.RowKit

theorem results_row_tmp {P : Program} {fn : Func} {p u : Tmp} {ty : TypeId} (h : fn.results = #[.cell p ty, .tmp u]) (tmps : Array Value) (w : World) (g : Nat) (t : TypeId) (cs : Array Value) (fr : Nat × Nat) (d : TypeDesc)
    (hp : tmps.getD p undef = .pointer (some ⟨g, 0, none⟩)) (hg : w.heap[g]? = some (.cells cs t fr))
    (hu : P.underlying ty = some d) (hd : (match d with | .struct _ | .array _ _ => true | _ => false) = true) (hi : (P.info? ty).map (·.size) = some cs.size) :
    (results fn tmps).run P w = .ok (.tuple #[.agg cs, tmps.getD u undef]) w := by
  rw [results_cell_tmp h, hp]
  simp [asAddr, run_loadVar_row w g t ty cs fr d hg hu hd hi]
end Go.Proofs.YtmhjddmamknglaaGreat
end
