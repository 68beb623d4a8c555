/-
  A side of the channel as it lies in memory; the walks of its small functions.
-/
import Derived.Test.YtibaibdgpnkdnaaGreatDoorZ1
import Derived.Test.YtibaibdgpnkdnaaGreatDoorSecAt
import Derived.Test.YtibaibdgpnkdnaaGreatDoorSec
import Derived.Test.YtibaibdgpnkdnaaGreatDoorZ0
namespace Go.Proofs.YtibaibdgpnkdnaaGreatDoor
set_option maxRecDepth 100000
set_option linter.unusedSimpArgs false
set_option linter.unusedVariables false
open Go.RowKit
set_option maxHeartbeats 8000000

/-- A slice of bytes that an object holds. -/
def BytG (w : World) (F : Nat → Prop) (g : Nat) (A : Option Addr) (n c : Nat) (bs : List UInt8) : Prop := Byt w w.heap.size A n c bs ∧ ∀ a, A = some a → F a.block ∧ a.block ≠ g
theorem BytG.only {w w' : World} {F R : Nat → Prop} {g : Nat} {A : Option Addr} {n c : Nat} {bs : List UInt8} (h : BytG w F g A n c bs) (ho : Only R w w') (hd : ∀ q, F q → q ≠ g → ¬ R q) : BytG w' F g A n c bs :=
  ⟨h.1.only ho (fun a e _ => hd _ (h.2 a e).1 (h.2 a e).2), h.2⟩
theorem BytG.imp {w : World} {F F' : Nat → Prop} {g : Nat} {A : Option Addr} {n c : Nat} {bs : List UInt8} (h : BytG w F g A n c bs) (hF : ∀ q, F q → F' q) : BytG w F' g A n c bs := ⟨h.1, fun a e => ⟨hF _ (h.2 a e).1, (h.2 a e).2⟩⟩
/-- Where a side's slices lie. -/
structure ChS where
  E : Option Addr
  ce : Nat
  M : Option Addr
  cm : Nat
  R : Option Addr
  cr : Nat
  D : Option Addr
  cd : Nat
  C : Option Addr
  cc : Nat
def cch (a : ChS) (lvl : Int) (cnt : Nat) (exp shut : Bool) : Array Value :=
  #[.slice a.E 16 a.ce, .slice a.M 16 a.cm, .slice a.R 16 a.cr, .slice a.D 16 a.cd, .int .i64 lvl, .slice a.C 8 a.cc, .int .i64 (cnt : Int), .bool exp, .bool shut]
/-- A side at block g, all of whose memory is in F. -/
structure ChAt (w : World) (g : Nat) (F : Nat → Prop) (s : Sec.S) (a : ChS) : Prop where
  ok : Sec.Ok s
  blk : Blk w g 50 (cch a s.lvl s.cnt s.exp s.shut)
  fg : F g
  enc : BytG w F g a.E 16 a.ce s.enc
  mac : BytG w F g a.M 16 a.cm s.mac
  rmac : BytG w F g a.R 16 a.cr s.rmac
  dat : BytG w F g a.D 16 a.cd s.dat
  chain : BytG w F g a.C 8 a.cc s.chain
  lt : ∀ q, F q → q < w.heap.size
def ChAt' (w : World) (g : Nat) (F : Nat → Prop) (s : Sec.S) : Prop := ∃ a, ChAt w g F s a
theorem ChAt.away {w w' : World} {g : Nat} {F R : Nat → Prop} {s : Sec.S} {a : ChS} (H : ChAt w g F s a) (ho : Only R w w') (hd : ∀ q, F q → ¬ R q) : ChAt w' g F s a :=
  { ok := H.ok, blk := H.blk.only ho (hd _ H.fg), fg := H.fg, enc := H.enc.only ho (fun q h _ => hd q h), mac := H.mac.only ho (fun q h _ => hd q h), rmac := H.rmac.only ho (fun q h _ => hd q h), dat := H.dat.only ho (fun q h _ => hd q h), chain := H.chain.only ho (fun q h _ => hd q h), lt := fun q hq => Nat.lt_of_lt_of_le (H.lt q hq) ho.size }
theorem ChAt'.away {w w' : World} {g : Nat} {F R : Nat → Prop} {s : Sec.S} (H : ChAt' w g F s) (ho : Only R w w') (hd : ∀ q, F q → ¬ R q) : ChAt' w' g F s := H.elim fun a h => ⟨a, h.away ho hd⟩
theorem ChAt'.lt {w : World} {g : Nat} {F : Nat → Prop} {s : Sec.S} (H : ChAt' w g F s) (q : Nat) (hq : F q) : q < w.heap.size := H.elim fun _ h => h.lt q hq
theorem ChAt'.ok {w : World} {g : Nat} {F : Nat → Prop} {s : Sec.S} (H : ChAt' w g F s) : Sec.Ok s := H.elim fun _ h => h.ok
theorem ChAt'.sup {w : World} {g : Nat} {F : Nat → Prop} {s : Sec.S} (H : ChAt' w g F s) : Sup w F (fun u => ChAt' u g F s) := ⟨H, H.lt, fun R w' ho hd => H.away ho hd⟩
theorem ChAt.below {w w' : World} {g : Nat} {F : Nat → Prop} {s : Sec.S} {a : ChS} (H : ChAt w g F s a) (hb : Below w.heap.size w w') : ChAt w' g F s a := H.away (R := fun _ => False) (Only.of_below hb) (fun _ _ e => e)
/-- The fields written anew, the slices as they are. -/
theorem ChAt.flags {w w' : World} {g : Nat} {F : Nat → Prop} {s : Sec.S} {a : ChS} (H : ChAt w g F s a) (ho : Only (fun q => q = g) w w') {cnt : Nat} {exp shut : Bool} (hb : Blk w' g 50 (cch a s.lvl cnt exp shut)) :
    ChAt w' g F { s with cnt := cnt, exp := exp, shut := shut } a :=
  { ok := { enc := H.ok.enc, mac := H.ok.mac, rmac := H.ok.rmac, dat := H.ok.dat, lvl := H.ok.lvl, chain := H.ok.chain }, blk := hb, fg := H.fg
    enc := H.enc.only ho (fun q _ h => h), mac := H.mac.only ho (fun q _ h => h), rmac := H.rmac.only ho (fun q _ h => h), dat := H.dat.only ho (fun q _ h => h), chain := H.chain.only ho (fun q _ h => h), lt := fun q hq => Nat.lt_of_lt_of_le (H.lt q hq) ho.size }
/-- The chaining value too. -/
theorem ChAt.chained {w w' : World} {g : Nat} {F F' : Nat → Prop} {s : Sec.S} {a : ChS} (H : ChAt w g F s a) (ho : Only (fun q => q = g) w w') {cnt : Nat} {exp shut : Bool} {C : Option Addr} {cc : Nat} {m : List UInt8} (hF : ∀ q, F q → F' q) (hlt : ∀ q, F' q → q < w'.heap.size) (hm : m.length = 8)
    (hC : BytG w' F' g C 8 cc m) (hb : Blk w' g 50 (cch { a with C := C, cc := cc } s.lvl cnt exp shut)) :
    ChAt w' g F' { s with cnt := cnt, exp := exp, shut := shut, chain := m } { a with C := C, cc := cc } :=
  { ok := { enc := H.ok.enc, mac := H.ok.mac, rmac := H.ok.rmac, dat := H.ok.dat, lvl := H.ok.lvl, chain := hm }, blk := hb, fg := hF _ H.fg
    enc := (H.enc.only ho (fun q _ h => h)).imp hF, mac := (H.mac.only ho (fun q _ h => h)).imp hF, rmac := (H.rmac.only ho (fun q _ h => h)).imp hF, dat := (H.dat.only ho (fun q _ h => h)).imp hF, chain := hC, lt := hlt }

/-! Levels. -/
theorem and_hb {lvl bit : Int} (h : Sec.lvOk lvl = true) (hb : bit = 1 ∨ bit = 2 ∨ bit = 16 ∨ bit = 32) : (bits .and .i64 lvl bit != 0) = Sec.hb lvl bit := by
  rcases Sec.lv_cases h with rfl | rfl | rfl | rfl | rfl | rfl <;> rcases hb with rfl | rfl | rfl | rfl <;> rfl
theorem andn_big (a : Nat) (ha : a < 9223372036854775808) (h : 64 ≤ a) : (bits .andNot .i64 (a : Int) 51 != 0) = true := by
  rw [bne_iff_ne]
  intro e
  have e : IntKind.i64.wrap ((BitVec.ofInt 64 (a : Int) &&& ~~~ BitVec.ofInt 64 51).toNat : Int) = 0 := e
  have hl := (BitVec.ofInt 64 (a : Int) &&& ~~~ BitVec.ofInt 64 51).isLt
  have h0 : (BitVec.ofInt 64 (a : Int) &&& ~~~ BitVec.ofInt 64 51).toNat = 0 := by
    rw [IntKind.wrap_i64] at e
    omega
  have h1 : BitVec.ofInt 64 (a : Int) &&& ~~~ BitVec.ofInt 64 51 = 0#64 := BitVec.eq_of_toNat_eq (by simpa using h0)
  have h2 : BitVec.ofInt 64 (a : Int) = BitVec.ofInt 64 (a : Int) &&& BitVec.ofInt 64 51 := by
    apply BitVec.eq_of_getLsbD_eq
    intro i hi
    have h3 := congrArg (fun z => z.getLsbD i) h1
    simp only [BitVec.getLsbD_and, BitVec.getLsbD_not, BitVec.getLsbD_zero] at h3 ⊢
    revert h3
    cases (BitVec.ofInt 64 (a : Int)).getLsbD i <;> cases (BitVec.ofInt 64 51).getLsbD i <;> simp [hi]
  have h3 := congrArg BitVec.toNat h2
  rw [BitVec.toNat_and, ofInt_i64 a ha, show (BitVec.ofInt 64 51).toNat = 51 from rfl] at h3
  have := Nat.and_le_right (n := a) (m := 51)
  omega
theorem lv_small : ∀ a : Fin 64, (if (bits .andNot .i64 (a.val : Int) 51 != 0) = true then false else if ((bits .and .i64 (a.val : Int) 2 != 0) || (bits .and .i64 (a.val : Int) 16 != 0)) && !(bits .and .i64 (a.val : Int) 1 != 0) then false
    else !(bits .and .i64 (a.val : Int) 32 != 0) || ((bits .and .i64 (a.val : Int) 2 != 0) && (bits .and .i64 (a.val : Int) 16 != 0))) = Sec.lvOk (a.val : Int) := by decide +kernel
theorem lv_neg {a : Int} (h : a < 0) : Sec.lvOk a = false := by
  unfold Sec.lvOk
  rw [decide_eq_false_iff_not]; omega
theorem lv_big {a : Nat} (h : 64 ≤ a) : Sec.lvOk (a : Int) = false := by
  unfold Sec.lvOk
  rw [decide_eq_false_iff_not]; omega
theorem secure_levelValid (l : Int) (hl : -9223372036854775808 ≤ l ∧ l ≤ 9223372036854775807) (w : World) : Calls Tryz.prog 10 #[.int .i64 l] w fun e w' => e = .returned (.bool (Sec.lvOk l)) ∧ w' = w := by
  by_cases h0 : l < 0
  · rw [lv_neg h0]
    go_enter Tryz.func10, Tryz.ntmps10
    go_wp2_with fail
    go_ret
    exact ⟨rfl, rfl⟩
  obtain ⟨a, rfl⟩ : ∃ a : Nat, l = a := ⟨l.toNat, by omega⟩
  by_cases h1 : 64 ≤ a
  · rw [lv_big h1]
    have hA := andn_big a (by omega) h1
    go_enter Tryz.func10, Tryz.ntmps10
    go_wp2_with fail
    go_ret
    exact ⟨rfl, rfl⟩
  · have hs := lv_small ⟨a, by omega⟩
    simp only at hs
    rw [← hs]
    clear hs hl h1
    generalize q0 : (bits .andNot .i64 (a : Int) 51 != 0) = b0
    generalize q1 : (bits .and .i64 (a : Int) 2 != 0) = b1
    generalize q2 : (bits .and .i64 (a : Int) 16 != 0) = b2
    generalize q3 : (bits .and .i64 (a : Int) 1 != 0) = b3
    generalize q4 : (bits .and .i64 (a : Int) 32 != 0) = b4
    cases b0 <;> cases b1 <;> cases b2 <;> cases b3 <;> cases b4
    all_goals
      go_enter Tryz.func10, Tryz.ntmps10
      go_wp2_with fail
      go_ret
      exact ⟨rfl, rfl⟩
theorem ch_has {w : World} {g : Nat} {a : ChS} {lvl : Int} {cnt : Nat} {exp shut : Bool} (H : Blk w g 50 (cch a lvl cnt exp shut)) (hl : Sec.lvOk lvl = true) (bit : Int) (hb : bit = 1 ∨ bit = 2 ∨ bit = 16 ∨ bit = 32) :
    Calls Tryz.prog 33 #[.pointer (some ⟨g, 0, none⟩), .int .i64 bit] w fun e w' => e = .returned (.bool (Sec.hb lvl bit)) ∧ w' = w := by
  have hand := and_hb hl hb
  have hm : Mem (fun q => q = g) w w [⟨g, _, _⟩] [] := Mem.one H rfl
  rw [← hand]
  clear hand hl hb
  obtain ⟨a0, a1, a2, a3, a4, a5, a6, a7, a8, a9⟩ := a
  simp only [cch] at hm
  go_enter Tryz.func33, Tryz.ntmps33
  go_wp2_with (first | go_skip | ((with_reducible show wpList _ _ _ _ _ (World.alloc _ _)); refine wpList_up hm ?_; clear hm; intro n w hn hn2 hk hm hd hd2 ho; (try rw [← hn]); replace hn := Nat.le_of_eq hn.symm) | ((first | ((with_reducible show wpList _ _ _ (Oper.mk _ (Op.box _ _) _ _ _ _ :: _) _ _); (refine bxA hm ?_; clear hm; intro n w hn hz hm ho; (try simp only [List.cons_append, List.nil_append] at hm))) | ((with_reducible show wpList _ _ _ (Oper.mk _ (Op.load _ _) _ _ _ _ :: _) _ _); first | (refine ldA hm ?_) | (refine laA hm ?_)) | ((with_reducible show wpList _ _ _ (Oper.mk _ (Op.store _ _ _) _ _ _ _ :: _) _ _); (refine stA hm ?_; clear hm; intro w hz hm ho)) | ((with_reducible show wpList _ _ _ (Oper.mk _ (Op.alloc _) _ _ _ _ :: _) _ _); (refine alA hm ?_; clear hm; intro n w hn hz hm ho; (try simp only [List.cons_append, List.nil_append] at hm)))); try simp only [Act.put, sxQ]))
  go_ret
  exact ⟨rfl, rfl⟩
theorem ch_made {w : World} {g : Nat} {v0 v1 v2 v3 v4 v6 v7 v8 : Value} {A : Option Addr} {n c : Nat} (H : Blk w g 50 #[v0, v1, v2, v3, v4, .slice A n c, v6, v7, v8]) :
    Calls Tryz.prog 30 #[.pointer (some ⟨g, 0, none⟩)] w fun e w' => e = .returned (.bool A.isSome) ∧ w' = w := by
  have hm : Mem (fun q => q = g) w w [⟨g, _, _⟩] [] := Mem.one H rfl
  cases A with
  | none =>
    go_enter Tryz.func30, Tryz.ntmps30
    go_wp2_with (first | go_skip | ((with_reducible show wpList _ _ _ _ _ (World.alloc _ _)); refine wpList_up hm ?_; clear hm; intro n w hn hn2 hk hm hd hd2 ho; (try rw [← hn]); replace hn := Nat.le_of_eq hn.symm) | ((first | ((with_reducible show wpList _ _ _ (Oper.mk _ (Op.box _ _) _ _ _ _ :: _) _ _); (refine bxA hm ?_; clear hm; intro n w hn hz hm ho; (try simp only [List.cons_append, List.nil_append] at hm))) | ((with_reducible show wpList _ _ _ (Oper.mk _ (Op.load _ _) _ _ _ _ :: _) _ _); first | (refine ldA hm ?_) | (refine laA hm ?_)) | ((with_reducible show wpList _ _ _ (Oper.mk _ (Op.store _ _ _) _ _ _ _ :: _) _ _); (refine stA hm ?_; clear hm; intro w hz hm ho)) | ((with_reducible show wpList _ _ _ (Oper.mk _ (Op.alloc _) _ _ _ _ :: _) _ _); (refine alA hm ?_; clear hm; intro n w hn hz hm ho; (try simp only [List.cons_append, List.nil_append] at hm)))); try simp only [Act.put, sxQ]))
    go_ret
    exact ⟨rfl, rfl⟩
  | some A =>
    go_enter Tryz.func30, Tryz.ntmps30
    go_wp2_with (first | go_skip | ((with_reducible show wpList _ _ _ _ _ (World.alloc _ _)); refine wpList_up hm ?_; clear hm; intro n w hn hn2 hk hm hd hd2 ho; (try rw [← hn]); replace hn := Nat.le_of_eq hn.symm) | ((first | ((with_reducible show wpList _ _ _ (Oper.mk _ (Op.box _ _) _ _ _ _ :: _) _ _); (refine bxA hm ?_; clear hm; intro n w hn hz hm ho; (try simp only [List.cons_append, List.nil_append] at hm))) | ((with_reducible show wpList _ _ _ (Oper.mk _ (Op.load _ _) _ _ _ _ :: _) _ _); first | (refine ldA hm ?_) | (refine laA hm ?_)) | ((with_reducible show wpList _ _ _ (Oper.mk _ (Op.store _ _ _) _ _ _ _ :: _) _ _); (refine stA hm ?_; clear hm; intro w hz hm ho)) | ((with_reducible show wpList _ _ _ (Oper.mk _ (Op.alloc _) _ _ _ _ :: _) _ _); (refine alA hm ?_; clear hm; intro n w hn hz hm ho; (try simp only [List.cons_append, List.nil_append] at hm)))); try simp only [Act.put, sxQ]))
    go_ret
    exact ⟨rfl, rfl⟩
theorem ch_nil (w : World) : Calls Tryz.prog 30 #[.pointer none] w fun e w' => e = .returned (.bool false) ∧ w' = w := by
  go_enter Tryz.func30, Tryz.ntmps30
  go_wp2_with fail
  go_ret
  exact ⟨rfl, rfl⟩
theorem secure_size (n : Nat) (b : Bool) (hn : n ≤ 1000000) (w : World) : Calls Tryz.prog 34 #[.int .i64 (n : Int), .bool b] w fun e w' => e = .returned (.int .i64 ((Sec.sz n b + 8 : Nat) : Int)) ∧ w' = w := by
  have hq : (n : Int).tdiv 8 = ((n / 8 : Nat) : Int) := by rw [Int.tdiv_eq_ediv_of_nonneg (by omega)]; omega
  cases b with
  | false =>
    go_enter Tryz.func34, Tryz.ntmps34
    go_wp2_with fail
    go_ret
    exact ⟨by congr 2, rfl⟩
  | true =>
    by_cases h0 : n = 0
    · subst h0
      go_enter Tryz.func34, Tryz.ntmps34
      go_wp2_with fail
      go_ret
      exact ⟨rfl, rfl⟩
    · have hp : 0 < n := by omega
      have e : Sec.sz n true = n / 8 * 8 + 8 := by unfold Sec.sz; rw [if_pos ⟨rfl, hp⟩]
      rw [e]
      go_enter Tryz.func34, Tryz.ntmps34
      go_wp2_with fail
      go_ret
      exact ⟨by congr 2, rfl⟩
end Go.Proofs.YtibaibdgpnkdnaaGreatDoor
