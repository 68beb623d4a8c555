/-
  The terminal's side as it lies in memory.
-/
import Derived.Test.YtpacdjkikbdkeaaTe
import Derived.Test.YtpacdjkikbdkeaaTzJ
import Derived.Test.YtpacdjkikbdkeaaZ0
namespace Go.Proofs.Ytpacdjkikbdkeaa
set_option maxRecDepth 100000
set_option linter.unusedSimpArgs false
set_option linter.unusedVariables false
open Go.RowKit
set_option maxHeartbeats 8000000

/-- A slice of bytes all of whose memory, if it has any, is in F. -/
def BytG (w : World) (F : Nat → Prop) (A : Option Addr) (n c : Nat) (bs : List UInt8) : Prop := Byt w w.heap.size A n c bs ∧ ∀ a, A = some a → 0 < n → F a.block
theorem BytG.only {w w' : World} {A : Option Addr} {n c : Nat} {bs : List UInt8} {R F : Nat → Prop} (h : BytG w F A n c bs) (ho : Only R w w') (hd : ∀ q, F q → ¬ R q) : BytG w' F A n c bs :=
  ⟨h.1.only ho fun a ha hn => hd _ (h.2 a ha hn), h.2⟩
/-- The function value in the field 'phase'. -/
def tphV (g : Nat) (k : Nat) : Value := if k = 0 then .func (.func 72) #[.pointer (some ⟨g, 0, none⟩)] #[] else if k = 1 then .func (.func 76) #[.pointer (some ⟨g, 0, none⟩)] #[] else .func (.func 77) #[.pointer (some ⟨g, 0, none⟩)] #[]
def Te.T.ph (t : Te.T) : Nat := if 0 < t.need then 2 else if t.first ≠ 0 then 1 else 0
def tcells (x : CV) (busy : Bool) (ph : Value) (h : Hd) (ins rest : Bool) (left : Int) (s1 : UInt8) (data : Value) (done : Bool) (rd : Value) (rsw : Int) (bad : Bool) : Array Value :=
  #[.bool true, .int .i64 x.cla, .int .i64 x.ins, .int .i64 x.p1, .int .i64 x.p2, x.d.val, .int .i64 x.le, .bool x.long, .bool busy, ph, .int .i64 h.h0, .int .i64 h.h1, .int .i64 h.h2, .int .i64 h.h3, .int .i64 h.h4, .bool ins, .bool rest, .int .i64 left, .int .u8 (s1.toNat : Int), data, .bool done, rd, .int .i64 rsw, .bool bad]
/-- What an active terminal's fields hold. -/
structure TFine (t : Te.T) (g : Nat) (x : CV) (ph : Value) (h : Hd) (ins rest : Bool) (left : Int) (s1 : UInt8) (db : List UInt8) : Prop where
  db : db = t.data
  cla : x.cla = t.cmd.cla
  ci : x.ins = t.cmd.ins
  p1 : x.p1 = t.cmd.p1
  p2 : x.p2 = t.cmd.p2
  d : x.d.bs = t.cmd.d
  le : x.le = t.cmd.le
  long : x.long = false
  h1 : h.h1 = (t.ins.toNat : Int)
  h4 : h.h4 = (t.p3.toNat : Int)
  ins : ins = !t.moved
  rest : rest = t.more
  left : left = (t.need : Int)
  s1 : t.first ≠ 0 → s1 = t.first
  ph : ph = tphV g t.ph
/-- A terminal at block g, all of whose memory is in F. -/
structure TermAt (w : World) (g : Nat) (F : Nat → Prop) (t : Te.T) (x : CV) (ph : Value) (h : Hd) (ins rest : Bool) (left : Int) (s1 : UInt8) (A : Option Addr) (c : Nat) (db : List UInt8) (rA : Option Addr) (rn rc : Nat) (rsw : Int) : Prop where
  ok : Te.Ok t
  blk : Blk w g 81 (tcells x t.act ph h ins rest left s1 (.slice A db.length c) t.done (.slice rA rn rc) rsw t.bad)
  fg : F g
  dat : Own w (g + 1) 5 1 A db.length c (bcells db)
  fa : ∀ q, ownAt A c = some q → F q
  act : t.act = true → TFine t g x ph h ins rest left s1 db
  xd : t.act = true → BytG w F x.d.a x.d.n x.d.c x.d.bs ∧ ∀ a, x.d.a = some a → 0 < x.d.n → a.block ≠ g ∧ ownAt A c ≠ some a.block
  dn : t.done = true → BytG w F rA rn rc t.data ∧ rsw = t.sw
  lt : ∀ q, F q → q < w.heap.size
def TermAt' (w : World) (g : Nat) (F : Nat → Prop) (t : Te.T) : Prop := ∃ x ph h ins rest left s1 A c db rA rn rc rsw, TermAt w g F t x ph h ins rest left s1 A c db rA rn rc rsw
section
variable {w w' : World} {g : Nat} {F R : Nat → Prop} {t : Te.T} {x : CV} {ph : Value} {h : Hd} {ins rest : Bool} {left : Int} {s1 : UInt8} {A : Option Addr} {c : Nat} {db : List UInt8} {rA : Option Addr} {rn rc : Nat} {rsw : Int}
theorem TermAt.away (H : TermAt w g F t x ph h ins rest left s1 A c db rA rn rc rsw) (ho : Only R w w') (hd : ∀ q, F q → ¬ R q) : TermAt w' g F t x ph h ins rest left s1 A c db rA rn rc rsw :=
  { ok := H.ok, blk := H.blk.only ho (hd _ H.fg), fg := H.fg, dat := H.dat.only' ho (fun q e => hd _ (H.fa q e)), fa := H.fa, act := H.act
    xd := fun e => ⟨(H.xd e).1.only ho hd, (H.xd e).2⟩, dn := fun e => ⟨(H.dn e).1.only ho hd, (H.dn e).2⟩, lt := fun q hq => Nat.lt_of_lt_of_le (H.lt q hq) ho.size }
theorem TermAt'.away (H : TermAt' w g F t) (ho : Only R w w') (hd : ∀ q, F q → ¬ R q) : TermAt' w' g F t := by
  obtain ⟨x, ph, h, ins, rest, left, s1, A, c, db, rA, rn, rc, rsw, H⟩ := H
  exact ⟨x, ph, h, ins, rest, left, s1, A, c, db, rA, rn, rc, rsw, H.away ho hd⟩
theorem TermAt'.below (H : TermAt' w g F t) (hb : Below w.heap.size w w') : TermAt' w' g F t := H.away (R := fun _ => False) (Only.of_below hb) (fun _ _ e => e)
theorem TermAt'.ok (H : TermAt' w g F t) : Te.Ok t := by obtain ⟨x, ph, h, ins, rest, left, s1, A, c, db, rA, rn, rc, rsw, H⟩ := H; exact H.ok
theorem TermAt'.lt (H : TermAt' w g F t) (q : Nat) (hq : F q) : q < w.heap.size := by obtain ⟨x, ph, h, ins, rest, left, s1, A, c, db, rA, rn, rc, rsw, H⟩ := H; exact H.lt q hq
/-- The terminal and the slice of its bytes, as known memory. -/
theorem TermAt.mem (H : TermAt w g F t x ph h ins rest left s1 A c db rA rn rc rsw) :
    Mem (fun q => q = g ∨ ownAt A c = some q) w w [⟨g, 81, tcells x t.act ph h ins rest left s1 (.slice A db.length c) t.done (.slice rA rn rc) rsw t.bad⟩] [⟨5, 1, A, db.length, c, bcells db⟩] :=
  (Mem.one (R := fun q => q = g ∨ ownAt A c = some q) H.blk (.inl rfl)).more (O := []) (H.dat.mono (Nat.zero_le _)) (fun q e => .inl (.inr e)) (fun e he e1 => by
    obtain rfl := List.mem_singleton.1 he
    have := (H.dat.lt _ e1).1
    simp only at this
    omega) (fun y hy => by cases hy)
theorem TermAt.reach (H : TermAt w g F t x ph h ins rest left s1 A c db rA rn rc rsw) (ho : Only (fun q => q = g ∨ ownAt A c = some q) w w') : Only F w w' :=
  ho.mono fun q _ e => e.elim (fun e => e ▸ H.fg) (H.fa q)
theorem grow_ex (q : Nat) (hq : grow w w' F q) : F q ∨ w.heap.size ≤ q := hq.elim .inl (fun h => .inr h.1)
/-- An active terminal, behind a step that keeps it active and its command. -/
theorem TermAt.next {t' : Te.T} {ph' : Value} {h' : Hd} {ins' rest' : Bool} {left' : Int} {s1' : UInt8} {A' : Option Addr} {n' c' : Nat} {db' : List UInt8} {dn' bd' : Bool} {O : List Osl} (H : TermAt w g F t x ph h ins rest left s1 A c db rA rn rc rsw) (ha : t.act = true)
    (hm : Mem (fun q => q = g ∨ ownAt A c = some q) w w' [⟨g, 81, tcells x true ph' h' ins' rest' left' s1' (.slice A' n' c') dn' (.slice rA rn rc) rsw bd'⟩] (⟨5, 1, A', n', c', bcells db'⟩ :: O)) (hn : db'.length = n')
    (hok : Te.Ok t') (ha' : t'.act = true) (hd' : t'.done = dn') (hb' : t'.bad = bd') (hc : t'.cmd = t.cmd) (hf : TFine t' g x ph' h' ins' rest' left' s1' db') : TermAt' w' g (grow w w' F) t' := by
  subst hn
  obtain ⟨hx1, hx2⟩ := H.xd ha
  have hsl := hm.sl_ 0 rfl
  have hwh := hm.where_ (k := 0) (j := 0) rfl rfl rfl
  refine ⟨x, ph', h', ins', rest', left', s1', A', c', db', rA, rn, rc, rsw, { ok := hok, blk := by rw [ha', hd', hb']; exact hm.at_ 0 rfl, fg := .inl H.fg, dat := ?_, fa := hm.grow_ (k := 0) (j := 0) rfl rfl rfl H.fa, act := fun _ => hf, xd := fun _ => ⟨⟨?_, fun a e hn => .inl (hx1.2 a e hn)⟩, fun a e hn => ⟨(hx2 a e hn).1, fun e2 => ?_⟩⟩, dn := fun e => absurd (hok.ad ha').1 (by rw [e]; simp), lt := fun q hq => hq.elim (fun h => Nat.lt_of_lt_of_le (H.lt q h) hm.only.size) (·.2) }⟩
  · refine hsl.base (fun q e => ?_)
    rcases hwh q e with h | h
    · exact (H.dat.lt q h).1
    · have := H.blk.lt; omega
  · exact hx1.1.only hm.only (fun a e hn e2 => by
      have := hx2 a e hn
      exact e2.elim this.1 this.2)
  · rcases hwh _ e2 with h | h
    · exact (hx2 a e hn).2 h
    · have := H.lt _ (hx1.2 a e hn); omega
/-- A terminal that has become idle. -/
theorem TermAt.idle {t' : Te.T} {x' : CV} {ph' : Value} {h' : Hd} {ins' rest' : Bool} {left' : Int} {s1' : UInt8} {A' : Option Addr} {n' c' : Nat} {db' : List UInt8} {rA' : Option Addr} {rn' rc' : Nat} {rsw' : Int} {dn' bd' : Bool} {O : List Osl} (H : TermAt w g F t x ph h ins rest left s1 A c db rA rn rc rsw)
    (hm : Mem (fun q => q = g ∨ ownAt A c = some q) w w' [⟨g, 81, tcells x' false ph' h' ins' rest' left' s1' (.slice A' n' c') dn' (.slice rA' rn' rc') rsw' bd'⟩] (⟨5, 1, A', n', c', bcells db'⟩ :: O)) (hn : db'.length = n')
    (hok : Te.Ok t') (ha' : t'.act = false) (hd' : t'.done = dn') (hb' : t'.bad = bd') (hr : t'.done = true → BytG w' (grow w w' F) rA' rn' rc' t'.data ∧ rsw' = t'.sw) : TermAt' w' g (grow w w' F) t' := by
  subst hn
  have hsl := hm.sl_ 0 rfl
  have hwh := hm.where_ (k := 0) (j := 0) rfl rfl rfl
  refine ⟨x', ph', h', ins', rest', left', s1', A', c', db', rA', rn', rc', rsw', { ok := hok, blk := by rw [ha', hd', hb']; exact hm.at_ 0 rfl, fg := .inl H.fg, dat := ?_, fa := hm.grow_ (k := 0) (j := 0) rfl rfl rfl H.fa, act := fun e => absurd e (by rw [ha']; simp), xd := fun e => absurd e (by rw [ha']; simp), dn := hr, lt := fun q hq => hq.elim (fun h => Nat.lt_of_lt_of_le (H.lt q h) hm.only.size) (·.2) }⟩
  refine hsl.base (fun q e => ?_)
  rcases hwh q e with h | h
  · exact (H.dat.lt q h).1
  · have := H.blk.lt; omega
end
/-- What a step of the terminal leaves. -/
def TRes (w : World) (g : Nat) (F : Nat → Prop) (t' : Te.T) (bs : List UInt8) (e : Ending) (w' : World) : Prop :=
  ∃ A c F', e = .returned (.slice A bs.length c) ∧ Own w' w.heap.size 5 1 A bs.length c (bcells bs) ∧ TermAt' w' g F' t' ∧ Only F w w' ∧ ∀ q, F' q → F q ∨ w.heap.size ≤ q
theorem TRes.nil {w w' : World} {g : Nat} {F F' : Nat → Prop} {t : Te.T} (H : TermAt' w' g F' t) (ho : Only F w w') (hF : ∀ q, F' q → F q ∨ w.heap.size ≤ q) : TRes w g F t [] (.returned (.slice none 0 0)) w' :=
  ⟨none, 0, F', rfl, Own.none_ _ _ _ _ _, H, ho, hF⟩
end Go.Proofs.Ytpacdjkikbdkeaa
