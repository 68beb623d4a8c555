/-
  Steps: a slice of them that came in; whether they are few and short.
-/
import Derived.Test.YtpacdjkikbdkeaaZ0
import Derived.Test.YtpacdjkikbdkeaaTzK
import Derived.Test.YtpacdjkikbdkeaaFlat
namespace Go.Proofs.Ytpacdjkikbdkeaa
set_option maxRecDepth 100000
set_option linter.unusedSimpArgs false
set_option linter.unusedVariables false
open Go.RowKit Go.ChangeShapes Go.WideShapes Go.Deep
set_option maxHeartbeats 8000000

/-- A step as it lies in memory. -/
structure Stp where
  b : SV
  act : Int
  c : CV
  r : SV
  sw : Int
instance : Inhabited Stp := ⟨⟨⟨none, 0, 0, []⟩, 0, ⟨0, 0, 0, 0, ⟨none, 0, 0, []⟩, 0, false⟩, ⟨none, 0, 0, []⟩, 0⟩⟩
def Stp.cells (x : Stp) : List Value := [x.b.val, I64 x.act, I64 x.c.cla, I64 x.c.ins, I64 x.c.p1, I64 x.c.p2, x.c.d.val, I64 x.c.le, .bool x.c.long, x.r.val, I64 x.sw]
def Stp.ok (w : World) (B : Nat) (x : Stp) : Prop := Byt w B x.b.a x.b.n x.b.c x.b.bs ∧ Byt w B x.c.d.a x.c.d.n x.c.d.c x.c.d.bs ∧ Byt w B x.r.a x.r.n x.r.c x.r.bs
/-- A slice of steps. -/
structure Stps (w : World) (A : Option Addr) (n c : Nat) (l : List Stp) : Prop where
  len : l.length = n
  cap : n ≤ c
  max : c ≤ maxLen
  row : Recs Stp.cells 11 w w.heap.size A l
  ok : ∀ x ∈ l, Stp.ok w w.heap.size x
theorem Stps.below {w w' : World} {A : Option Addr} {n c : Nat} {l : List Stp} (h : Stps w A n c l) (hb : Below w.heap.size w w') : Stps w' A n c l :=
  ⟨h.len, h.cap, h.max, (h.row.below hb).more hb.size, fun x hx => ⟨((h.ok x hx).1.below hb).more hb.size, ((h.ok x hx).2.1.below hb).more hb.size, ((h.ok x hx).2.2.below hb).more hb.size⟩⟩
theorem steps_of_trod {H : Type} {enc : TypeId × Value → H} {w : World} {base : Nat} {spare : Nat → Bool} {held : Bool} {A : Option Addr} {n c : Nat} {d : DataW H} {p : List MemPlace}
    (h : DataW.Trod enc Try.prog w base spare held 36 (.slice A n c) d p) : ∃ l : List Stp, Stps w A n c l ∧ c ≤ maxLen := by
  obtain ⟨fuel, hf⟩ := h
  rcases flat_slice (k := 4) (ts := [23, 3, 3, 3, 3, 3, 23, 3, 4, 23, 3]) Try.underlying36 (by kernel_rfl) hf with hcs | ⟨a, len, cap, hcs, hl, hm, hr⟩
  · simp [Value.cells] at hcs
    obtain ⟨rfl, rfl, rfl⟩ := hcs
    exact ⟨[], ⟨rfl, Nat.le_refl _, Nat.zero_le _, fun hn => absurd hn (Nat.lt_irrefl 0), fun v hv => (by cases hv)⟩, Nat.zero_le _⟩
  · simp [Value.cells] at hcs
    obtain ⟨rfl, rfl, rfl⟩ := hcs
    have hC : Try.prog.cellsOf 44 = 11 := by kernel_rfl
    rw [hC] at hr
    obtain ⟨l, h1, h2, h3⟩ := recs_of (cells := Stp.cells) (s := 11) (n := n) (w := w) (a := a) (G := Stp.ok w w.heap.size) (fun x => ⟨_, rfl⟩) (fun i hi => by
      obtain ⟨v0, c0, t0⟩ := hr i hi 0 _ rfl
      obtain ⟨v1, c1, t1⟩ := hr i hi 1 _ rfl
      obtain ⟨v2, c2, t2⟩ := hr i hi 2 _ rfl
      obtain ⟨v3, c3, t3⟩ := hr i hi 3 _ rfl
      obtain ⟨v4, c4, t4⟩ := hr i hi 4 _ rfl
      obtain ⟨v5, c5, t5⟩ := hr i hi 5 _ rfl
      obtain ⟨v6, c6, t6⟩ := hr i hi 6 _ rfl
      obtain ⟨v7, c7, t7⟩ := hr i hi 7 _ rfl
      obtain ⟨v8, c8, t8⟩ := hr i hi 8 _ rfl
      obtain ⟨v9, c9, t9⟩ := hr i hi 9 _ rfl
      obtain ⟨v10, c10, t10⟩ := hr i hi 10 _ rfl
      obtain ⟨A0, n0, k0, b0, rfl, hb0, -⟩ := t0.byt Try.underlying23 Try.underlying5 (by kernel_rfl)
      obtain ⟨z1, rfl, -⟩ := t1.int Try.underlying3
      obtain ⟨z2, rfl, -⟩ := t2.int Try.underlying3
      obtain ⟨z3, rfl, -⟩ := t3.int Try.underlying3
      obtain ⟨z4, rfl, -⟩ := t4.int Try.underlying3
      obtain ⟨z5, rfl, -⟩ := t5.int Try.underlying3
      obtain ⟨A6, n6, k6, b6, rfl, hb6, -⟩ := t6.byt Try.underlying23 Try.underlying5 (by kernel_rfl)
      obtain ⟨z7, rfl, -⟩ := t7.int Try.underlying3
      obtain ⟨z8, rfl⟩ := t8.bool Try.underlying4
      obtain ⟨A9, n9, k9, b9, rfl, hb9, -⟩ := t9.byt Try.underlying23 Try.underlying5 (by kernel_rfl)
      obtain ⟨z10, rfl, -⟩ := t10.int Try.underlying3
      refine ⟨⟨⟨A0, n0, k0, b0⟩, z1, ⟨z2, z3, z4, z5, ⟨A6, n6, k6, b6⟩, z7, z8⟩, ⟨A9, n9, k9, b9⟩, z10⟩, fun j v hv => ?_, hb0, hb6, hb9⟩
      match j, hv with
      | 0, hv => injection hv with hv; subst hv; exact c0
      | 1, hv => injection hv with hv; subst hv; exact c1
      | 2, hv => injection hv with hv; subst hv; exact c2
      | 3, hv => injection hv with hv; subst hv; exact c3
      | 4, hv => injection hv with hv; subst hv; exact c4
      | 5, hv => injection hv with hv; subst hv; exact c5
      | 6, hv => injection hv with hv; subst hv; exact c6
      | 7, hv => injection hv with hv; subst hv; exact c7
      | 8, hv => injection hv with hv; subst hv; exact c8
      | 9, hv => injection hv with hv; subst hv; exact c9
      | 10, hv => injection hv with hv; subst hv; exact c10
      | j + 11, hv => simp [Stp.cells] at hv)
    exact ⟨l, ⟨h1, hl, hm, h2, h3⟩, hm⟩
/-- The parts of a step, wherever it is looked at. -/
structure StpAt (w : World) (b o : Nat) (k : Nat) (x : Stp) : Prop where
  c0 : w.cell? ⟨b, o + k * 11, none⟩ = some x.b.val
  c1 : w.cell? ⟨b, o + k * 11 + 1, none⟩ = some (I64 x.act)
  c2 : w.cell? ⟨b, o + k * 11 + 2, none⟩ = some (I64 x.c.cla)
  c3 : w.cell? ⟨b, o + k * 11 + 3, none⟩ = some (I64 x.c.ins)
  c4 : w.cell? ⟨b, o + k * 11 + 4, none⟩ = some (I64 x.c.p1)
  c5 : w.cell? ⟨b, o + k * 11 + 5, none⟩ = some (I64 x.c.p2)
  c6 : w.cell? ⟨b, o + k * 11 + 6, none⟩ = some x.c.d.val
  c7 : w.cell? ⟨b, o + k * 11 + 7, none⟩ = some (I64 x.c.le)
  c8 : w.cell? ⟨b, o + k * 11 + 8, none⟩ = some (.bool x.c.long)
  c9 : w.cell? ⟨b, o + k * 11 + 9, none⟩ = some x.r.val
  c10 : w.cell? ⟨b, o + k * 11 + 10, none⟩ = some (I64 x.sw)
theorem Stps.at_ {w : World} {A : Option Addr} {n c : Nat} {l : List Stp} (h : Stps w A n c l) {k : Nat} (hk : k < n) : ∃ (b o : Nat) (x : Stp), A = some ⟨b, o, none⟩ ∧ b < w.heap.size ∧ l[k]? = some x ∧ x ∈ l ∧ StpAt w b o k x := by
  have hl := h.len
  obtain ⟨b, o, e, hb, hr⟩ := h.row (by omega)
  have hx : l[k]? = some l[k] := List.getElem?_eq_getElem (by omega)
  have this : ∀ (j : Nat) (v : Value), (l[k]).cells[j]? = some v → w.cell? ⟨b, o + k * 11 + j, none⟩ = some v := fun j v hv => by
    have := hr k _ hx j v hv
    rwa [← Nat.add_assoc] at this
  exact ⟨b, o, _, e, hb, hx, List.mem_of_getElem? hx, this 0 _ rfl, this 1 _ rfl, this 2 _ rfl, this 3 _ rfl, this 4 _ rfl, this 5 _ rfl, this 6 _ rfl, this 7 _ rfl, this 8 _ rfl, this 9 _ rfl, this 10 _ rfl⟩
theorem StpAt.below {w w' : World} {b o k : Nat} {x : Stp} (h : StpAt w b o k x) (hb : Below w.heap.size w w') : StpAt w' b o k x := by
  have hlt := World.block_lt_of_cell? w _ h.c0
  have e : ∀ i, w'.cell? ⟨b, i, none⟩ = w.cell? ⟨b, i, none⟩ := fun i => World.cell?_of_block (hb.block b hlt)
  exact ⟨(e _).trans h.c0, (e _).trans h.c1, (e _).trans h.c2, (e _).trans h.c3, (e _).trans h.c4, (e _).trans h.c5, (e _).trans h.c6, (e _).trans h.c7, (e _).trans h.c8, (e _).trans h.c9, (e _).trans h.c10⟩
theorem StpAt.range {w : World} {b o k : Nat} {x : Stp} (h : StpAt w b o k x) : w.rangeAt b (o + k * 11 + 9) [x.r.val, I64 x.sw] := fun j v hv => by
  match j, hv with
  | 0, hv => injection hv with hv; subst hv; exact h.c9
  | 1, hv => injection hv with hv; subst hv; exact h.c10
  | j + 2, hv => simp at hv
theorem StpAt.rangeC {w : World} {b o k : Nat} {x : Stp} (h : StpAt w b o k x) : w.rangeAt b (o + k * 11 + 2) [I64 x.c.cla, I64 x.c.ins, I64 x.c.p1, I64 x.c.p2, x.c.d.val, I64 x.c.le, .bool x.c.long] := fun j v hv => by
  match j, hv with
  | 0, hv => injection hv with hv; subst hv; exact h.c2
  | 1, hv => injection hv with hv; subst hv; exact h.c3
  | 2, hv => injection hv with hv; subst hv; exact h.c4
  | 3, hv => injection hv with hv; subst hv; exact h.c5
  | 4, hv => injection hv with hv; subst hv; exact h.c6
  | 5, hv => injection hv with hv; subst hv; exact h.c7
  | 6, hv => injection hv with hv; subst hv; exact h.c8
  | j + 7, hv => simp at hv
/-- Few and short. -/
def Lgt (n : Nat) (l : List Stp) : Prop := n ≤ 40 ∧ ∀ x ∈ l, x.b.n ≤ 2000 ∧ x.c.d.n ≤ 2000 ∧ x.r.n ≤ 2000
/-- What 'light' leaves. -/
def LgRes (w0 : World) (n : Nat) (l : List Stp) (e : Ending) (w' : World) : Prop := ∃ b, e = .returned (.bool b) ∧ (b = true → Lgt n l) ∧ Below w0.heap.size w0 w'
set_option maxRecDepth 100000 in
theorem law07_light (A : Option Addr) (n c : Nat) (l : List Stp) (w0 : World) (h : Stps w0 A n c l) :
    Calls Try.prog 15 #[.slice A n c] w0 (LgRes w0 n l) := by
  have HS := Lib.hid h
  have hlen := h.len
  clear h
  by_cases h40 : 40 < n
  · go_enter Try.func15, Try.ntmps15
    go_wp2_with fail
    go_ret
    exact ⟨false, rfl, fun e => (by cases e), Below.refl _ _⟩
  go_enter Try.func15, Try.ntmps15
  go_wp2_with fail
  go_loopg [3, 4] n (fun g v3 v4 wr => ∃ (k : Nat) (z : Int), k + g = n ∧ v4 = .int .i64 k ∧ v3 = .int .i64 z ∧ 0 ≤ z ∧ z ≤ 4000 * (k : Int) ∧ (∀ x ∈ l.take k, x.b.n ≤ 2000 ∧ x.c.d.n ≤ 2000 ∧ x.r.n ≤ 2000) ∧ Mem (fun _ => False) w0 wr [] [])
  case atStart => exact ⟨0, 0, by omega, rfl, rfl, by omega, by omega, fun x hx => (by simp at hx), Mem.nil _ _⟩
  case round =>
    obtain ⟨k, z, hk, rfl, rfl, hz0, hz1, hall, hm⟩ := hrel
    have HA := Lib.hid hall
    clear hall
    cases gk with
    | zero =>
      obtain rfl : k = n := by omega
      go_wp2_with fail
      go_ret
      refine ⟨_, rfl, fun _ => ⟨by omega, fun x hx => HA.out x (by rw [List.take_of_length_le (by omega)]; exact hx)⟩, ?_⟩
      exact hm.low
    | succ g =>
      have hkn : k < n := by omega
      obtain ⟨b, o, x, rfl, hb, hx, hmem, hat⟩ := (HS.out.below hm.low).at_ hkn
      have htk : l.take (k + 1) = l.take k ++ [x] := by
        rw [List.take_succ_eq_append_getElem (by omega)]
        have := List.getElem?_eq_some_iff.1 hx
        rw [this.2]
      have HT := Lib.hid htk
      have c0 := hat.c0
      have c6 := hat.c6
      have c9 := hat.c9
      clear hat htk hx
      obtain ⟨⟨xa, xn, xc, xb⟩, act, ⟨e0, e1, e2, e3, ⟨ya, yn, yc, yb⟩, e5, e6⟩, ⟨ra, rn, rc, rb⟩, sw⟩ := x
      simp only [SV.val] at c0 c6 c9
      by_cases h1 : 2000 < xn
      · go_wp2_with fail
        go_ret
        exact ⟨false, rfl, fun e => (by cases e), hm.low⟩
      by_cases h2 : 2000 < yn
      · go_wp2_with fail
        go_ret
        exact ⟨false, rfl, fun e => (by cases e), hm.low⟩
      by_cases h3 : 2000 < rn
      · go_wp2_with fail
        go_ret
        exact ⟨false, rfl, fun e => (by cases e), hm.low⟩
      have w1 : IntKind.i64.wrap (z + (xn : Int)) = z + xn := IntWalk.i64_in _ (by omega)
      have w2 : IntKind.i64.wrap (z + (xn : Int) + (rn : Int)) = z + xn + rn := IntWalk.i64_in _ (by omega)
      have w3 : IntKind.i64.wrap ((k : Int) + 1) = (k : Int) + 1 := IntWalk.i64_in _ (by omega)
      go_wp2_with fail
      refine wp_region_quiet_lit (by kernel_rfl) (by kernel_rfl) ?_
      repeat (first | go_big_quiet_skip | ((with_reducible show wpQuiet _ _ _ _ (Oper.mk _ (Op.load _ _) _ _ _ _ :: _) _); first | (refine wpQuiet_ldS (by rfl) _ _ rfl _ _ rfl hm _ _ (by repeat (first | apply In.a | apply In.b)) (by decide +kernel) _ (by simp only [List.getElem?_toArray, List.getElem?_cons_succ, List.getElem?_cons_zero]; first | done | exact rfl) ?_; (try simp only [Act.put, List.setIfInBounds_toArray, List.set_cons_zero, List.set_cons_succ]))) | go_big_quiet_step (fail))
      refine wpQuiet_nil ?_
      rintro _ ⟨nq, rfl⟩
      replace hm := hm.drewN nq
      go_wp2_with fail
      go_roundg g
      case measure => omega
      case rel =>
        refine ⟨k + 1, z + xn + rn, by omega, by go_num, rfl, by omega, by omega, fun x hx => ?_, hm⟩
        rw [HT.out] at hx
        rcases List.mem_append.1 hx with hx | hx
        · exact HA.out x hx
        · obtain rfl := List.mem_singleton.1 hx
          exact ⟨by show xn ≤ 2000; omega, by show yn ≤ 2000; omega, by show rn ≤ 2000; omega⟩
end Go.Proofs.Ytpacdjkikbdkeaa
