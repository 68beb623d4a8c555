/-
  The card's side as it lies in memory.
-/
import Derived.Test.YtpacdjkikbdkeaaTz
import Derived.Test.YtpacdjkikbdkeaaZ1
import Derived.Test.YtpacdjkikbdkeaaZ0
import Derived.Maps.Own
import Derived.Maps.Views
namespace Go.Proofs.Ytpacdjkikbdkeaa
set_option maxRecDepth 100000
set_option linter.unusedSimpArgs false
set_option linter.unusedVariables false
open Go.RowKit Go.Maps

/-- The map with the numbers of a list as keys. -/
def tmapD : List Int → DataW Unit → DataW Unit
  | [], D => D
  | x :: l, D => tmapD l (D.put (.int .i64 x) (.lit (.bool true)))
def InAt (w : World) (gm : Nat) (n : Nat) (D : DataW Unit) : Prop := w.ownsMap Try.prog 3 (plainElem Try.prog 4) gm n D
theorem law_int : Keyed Try.prog 3 := int_keyed Try.underlying3
theorem plainElem_bool_inv {H : Type} {P : Program} {e : TypeId} (he : P.underlying e = some .bool) {v : Value} {z : DataW H × List MemPlace} (h : plainElem P e v = some z) : ∃ a, v = .bool a ∧ z = (.lit (.bool a), []) := by
  cases v <;> simp [plainElem, he] at h
  exact ⟨_, rfl, h.symm⟩
theorem tmap_at (i : Int) : ∀ (l : List Int) (D : DataW Unit), IsMap D → (∃ b, D.atKey (.int .i64 i) (.lit (.bool false)) = .lit (.bool b) ∧ (tmapD l D).atKey (.int .i64 i) (.lit (.bool false)) = .lit (.bool (b || l.contains i))) ∨ ¬ ∃ b, D.atKey (.int .i64 i) (.lit (.bool false)) = .lit (.bool b)
  | [], D, _ => by
    by_cases hb : ∃ b, D.atKey (.int .i64 i) (.lit (.bool false)) = .lit (.bool b)
    · obtain ⟨b, hb⟩ := hb
      exact .inl ⟨b, hb, by simpa [tmapD] using hb⟩
    · exact .inr hb
  | x :: l, D, hD => by
    by_cases hb : ∃ b, D.atKey (.int .i64 i) (.lit (.bool false)) = .lit (.bool b)
    · obtain ⟨b, hb⟩ := hb
      refine .inl ⟨b, hb, ?_⟩
      by_cases hx : i = x
      · subst hx
        have h1 := atKey_put_same hD (k := .int .i64 i) trivial (.lit (.bool true)) (.lit (.bool false))
        rcases tmap_at i l _ (hD.put (.int .i64 i) (.lit (.bool true))) with ⟨b2, h2, h3⟩ | h2
        · rw [h1] at h2
          have h2 : true = b2 := by injection h2 with h2; injection h2
          subst h2
          show (tmapD l _).atKey _ _ = _
          rw [h3]
          simp
        · exact absurd ⟨_, h1⟩ h2
      · have h1 : (D.put (.int .i64 x) (.lit (.bool true))).atKey (.int .i64 i) (.lit (.bool false)) = D.atKey (.int .i64 i) (.lit (.bool false)) :=
          atKey_put_other (fun e => hx (by injection e)) _ _
        rcases tmap_at i l _ (hD.put (.int .i64 x) (.lit (.bool true))) with ⟨b2, h2, h3⟩ | h2
        · rw [h1, hb] at h2
          have h2 : b = b2 := by injection h2 with h2; injection h2
          subst h2
          show (tmapD l _).atKey _ _ = _
          rw [h3]
          simp [hx]
        · exact absurd ⟨b, by rw [h1]; exact hb⟩ h2
    · exact .inr hb
theorem tmap_has (i : Int) (l : List Int) : (tmapD l (.map [])).atKey (.int .i64 i) (.lit (.bool false)) = .lit (.bool (l.contains i)) := by
  rcases tmap_at i l (.map []) isMap_empty with ⟨b, h1, h2⟩ | h
  · have : b = false := by
      have h3 : (DataW.map [] : DataW Unit).atKey (.int .i64 i) (.lit (.bool false)) = .lit (.bool false) := rfl
      rw [h3] at h1
      injection h1 with h1
      injection h1 with h1
      exact h1.symm
    subst this
    simpa using h2
  · exact absurd ⟨false, rfl⟩ h
theorem tmapD_snoc (l : List Int) (x : Int) (D : DataW Unit) : tmapD (l ++ [x]) D = (tmapD l D).put (.int .i64 x) (.lit (.bool true)) := by
  induction l generalizing D with
  | nil => rfl
  | cons y r ih => exact ih _
theorem zero_bool (w : World) : (zeroValue 4).run Try.prog w = .ok (.bool false) w := by kernel_rfl
theorem InAt.look {w : World} {gm n : Nat} {l : List Int} (h : InAt w gm n (tmapD l (.map []))) (i : Int) (hi : -9223372036854775808 ≤ i ∧ i ≤ 9223372036854775807) :
    (Instr.lookup 73 (.map (some gm)) (.int .i64 i) false).run Try.prog w = .ok (.bool (l.contains i)) w := by
  have hw : (Lit.int .i64 i).wf = true := by simpa [Lit.wf, IntKind.min, IntKind.max, IntKind.signed, IntKind.bits] using hi
  obtain ⟨v, ps, hrun, hv⟩ := World.ownsMap.lookup (k := 3) (t := 73) (e := 4) h law_int Try.underlying73 (zero_bool w) (plainElem_bool Try.underlying4 false) (keyOf_int_mk Try.underlying3 hw)
  obtain ⟨a, rfl, hz⟩ := plainElem_bool_inv Try.underlying4 hv
  rw [tmap_has] at hz
  injection hz with hz _
  injection hz with hz
  injection hz with hz
  rw [hrun, hz]
theorem InAt.only {w w' : World} {gm n : Nat} {D : DataW Unit} {R : Nat → Prop} (h : InAt w gm n D) (ho : Only R w w') (hg : ¬ R gm) : InAt w' gm n D := by
  obtain ⟨es, clock, hb, F, hs, rfl⟩ := h
  exact ⟨es, clock, (ho.block gm (Array.getElem?_eq_some_iff.1 hb).1 hg).trans hb, F, hs, rfl⟩
theorem InAt.below {w w' : World} {gm n : Nat} {D : DataW Unit} (h : InAt w gm n D) (hb : Below w.heap.size w w') : InAt w' gm n D :=
  h.only (R := fun _ => False) (Only.of_below hb) (fun e => e)
theorem InAt.lt {w : World} {gm n : Nat} {D : DataW Unit} (h : InAt w gm n D) : gm < w.heap.size := World.ownsMap.lt h

/-- A slice of bytes all of whose memory is in F. -/
def BytF (w : World) (F : Nat → Prop) (A : Option Addr) (n c : Nat) (bs : List UInt8) : Prop := Byt w w.heap.size A n c bs ∧ ∀ a, A = some a → F a.block
/-- A slice of bytes none of whose memory is in F. -/
def BytO (w : World) (F : Nat → Prop) (A : Option Addr) (n c : Nat) (bs : List UInt8) : Prop := Byt w w.heap.size A n c bs ∧ ∀ a, A = some a → 0 < n → ¬ F a.block
theorem Byt.only {w w' : World} {A : Option Addr} {n c : Nat} {bs : List UInt8} {R : Nat → Prop} (h : Byt w w.heap.size A n c bs) (ho : Only R w w') (hg : ∀ a, A = some a → 0 < n → ¬ R a.block) : Byt w' w'.heap.size A n c bs := by
  refine ⟨h.1, h.2.1, fun hn => ?_⟩
  obtain ⟨b, o, e, hb, hc⟩ := h.2.2 hn
  refine ⟨b, o, e, Nat.lt_of_lt_of_le hb ho.size, fun j hj => ?_⟩
  rw [← hc j hj]
  have h0 : 0 < n := by rw [length_bcells, h.1] at hn; exact hn
  have := ho.block b hb (hg _ e h0)
  unfold World.cell?
  rw [this]
theorem BytF.only {w w' : World} {A : Option Addr} {n c : Nat} {bs : List UInt8} {R F : Nat → Prop} (h : BytF w F A n c bs) (ho : Only R w w') (hd : ∀ q, F q → ¬ R q) : BytF w' F A n c bs :=
  ⟨h.1.only ho fun a ha _ => hd _ (h.2 a ha), h.2⟩
theorem BytO.only {w w' : World} {A : Option Addr} {n c : Nat} {bs : List UInt8} {F F' : Nat → Prop} (h : BytO w F A n c bs) (ho : Only F w w') (hF : ∀ q, F' q → F q ∨ w.heap.size ≤ q) : BytO w' F' A n c bs :=
  ⟨h.1.only ho h.2, fun a ha hn hq => by
    rcases hF _ hq with h1 | h1
    · exact h.2 a ha hn h1
    · obtain ⟨b, o, e, hb⟩ := h.1.at_ hn
      rw [ha] at e; injection e with e; subst e
      exact absurd h1 (by show ¬ w.heap.size ≤ b; omega)⟩

/-- What the machine of bytes a card runs lies in its fields as. -/
def phV (g : Nat) (k : Nat) : Value := if k = 0 then .func (.func 37) #[.pointer (some ⟨g, 0, none⟩)] #[] else if k = 1 then .func (.func 58) #[.pointer (some ⟨g, 0, none⟩)] #[] else .nilFunc
structure Hd where
  h0 : Int
  h1 : Int
  h2 : Int
  h3 : Int
  h4 : Int
def ccard (gm : Nat) (ph : Value) (got : Value) (h : Hd) (x : CV) (inc : Bool) (data : Value) (sw : Int) : Array Value :=
  #[.map (some gm), ph, got, .int .i64 h.h0, .int .i64 h.h1, .int .i64 h.h2, .int .i64 h.h3, .int .i64 h.h4, .int .i64 x.cla, .int .i64 x.ins, .int .i64 x.p1, .int .i64 x.p2, x.d.val, .int .i64 x.le, .bool x.long, .bool inc, data, .int .i64 sw]
/-- The bytes that the code keeps in its field 'got'. -/
def Tz.S.gotc (s : Tz.S) : List UInt8 := if s.ph = 1 then s.got.drop 1 else s.got
/-- The fields that a phase leans on. -/
structure Fine (w : World) (F : Nat → Prop) (l : List Int) (s : Tz.S) (h : Hd) (x : CV) (inc : Bool) : Prop where
  wait : s.ph = 2 → x.cla = s.cmd.cla ∧ x.ins = s.cmd.ins ∧ x.p1 = s.cmd.p1 ∧ x.p2 = s.cmd.p2 ∧ x.d.bs = s.cmd.d ∧ x.le = s.cmd.le ∧ x.long = false ∧ BytF w F x.d.a x.d.n x.d.c x.d.bs ∧ inc = Tz.inc l s.cmd.cla s.cmd.ins
  data : s.ph = 1 → h.h0 = s.cmd.cla ∧ h.h1 = s.cmd.ins ∧ h.h2 = s.cmd.p1 ∧ h.h3 = s.cmd.p2 ∧ h.h4 = ((s.got.getD 0 0).toNat : Int) ∧ inc = true ∧ Tz.inc l s.cmd.cla s.cmd.ins = true ∧ s.cmd.le = 256
/-- A card at block g, all of whose memory is in F. -/
structure CardAt (w : World) (g : Nat) (F : Nat → Prop) (l : List Int) (s : Tz.S) (gm m : Nat) (A : Option Addr) (c : Nat) (h : Hd) (x : CV) (inc : Bool) (Ad : Option Addr) (cd : Nat) : Prop where
  ok : Tz.Ok s
  blk : Blk w g 78 (ccard gm (phV g s.ph) (.slice A s.gotc.length c) h x inc (.slice Ad s.kept.length cd) s.sw)
  fg : F g
  fm : F gm
  mp : InAt w gm m (tmapD l (.map []))
  got : Own w (g + 1) 5 1 A s.gotc.length c (bcells s.gotc)
  fa : ∀ q, ownAt A c = some q → F q
  kept : BytF w F Ad s.kept.length cd s.kept
  row : ∀ q, (∃ a, Ad = some a ∧ 0 < s.kept.length ∧ a.block = q) → ownAt A c ≠ some q ∧ q ≠ g
  fine : Fine w F l s h x inc
  frow : s.ph = 2 → ∀ a, x.d.a = some a → 0 < x.d.n → a.block ≠ g ∧ ownAt A c ≠ some a.block
  lt : ∀ q, F q → q < w.heap.size
  gm_ne : gm ≠ g
/-- A card at block g in some state of memory. -/
def CardAt' (w : World) (g : Nat) (F : Nat → Prop) (l : List Int) (s : Tz.S) : Prop := ∃ gm m A c h x inc Ad cd, CardAt w g F l s gm m A c h x inc Ad cd
theorem CardAt.away {w w' : World} {g : Nat} {F R : Nat → Prop} {l : List Int} {s : Tz.S} {gm m : Nat} {A : Option Addr} {c : Nat} {h : Hd} {x : CV} {inc : Bool} {Ad : Option Addr} {cd : Nat} (H : CardAt w g F l s gm m A c h x inc Ad cd) (ho : Only R w w') (hd : ∀ q, F q → ¬ R q) :
    CardAt w' g F l s gm m A c h x inc Ad cd :=
  { ok := H.ok, blk := H.blk.only ho (hd _ H.fg), fg := H.fg, fm := H.fm, mp := H.mp.only ho (hd _ H.fm)
    got := by
      rcases Nat.eq_zero_or_pos c with hc | hc
      · refine ⟨H.got.1, H.got.2.1, H.got.2.2.1, fun e => absurd e (by omega)⟩
      · exact H.got.only ho (fun g2 e => hd _ (H.fa _ (by unfold ownAt; rw [if_neg (by omega)]; exact e)))
    fa := H.fa, kept := H.kept.only ho hd, row := H.row
    fine := ⟨fun e => by obtain ⟨h1, h2, h3, h4, h5, h6, h7, h8, h9⟩ := H.fine.wait e; exact ⟨h1, h2, h3, h4, h5, h6, h7, h8.only ho hd, h9⟩, H.fine.data⟩
    frow := H.frow, lt := fun q hq => Nat.lt_of_lt_of_le (H.lt q hq) ho.size, gm_ne := H.gm_ne }
theorem CardAt.below {w w' : World} {g : Nat} {F : Nat → Prop} {l : List Int} {s : Tz.S} {gm m : Nat} {A : Option Addr} {c : Nat} {h : Hd} {x : CV} {inc : Bool} {Ad : Option Addr} {cd : Nat} (H : CardAt w g F l s gm m A c h x inc Ad cd) (hb : Below w.heap.size w w') :
    CardAt w' g F l s gm m A c h x inc Ad cd := H.away (R := fun _ => False) (Only.of_below hb) (fun _ _ e => e)
end Go.Proofs.Ytpacdjkikbdkeaa
