/-
  First, pair.
-/
import Derived.Test.YtibaibdgpnkdnaaGreatDoorZ1
import Derived.Test.YtibaibdgpnkdnaaGreatDoorSecG
namespace Go.Proofs.YtibaibdgpnkdnaaGreatDoor
set_option maxRecDepth 100000
set_option linter.unusedSimpArgs false
set_option linter.unusedVariables false
open Go.RowKit
set_option maxHeartbeats 8000000

/-- A session, and a reference's state, by value. -/
structure SnS where
  E : Option Addr
  en : Nat
  ce : Nat
  M : Option Addr
  mn : Nat
  cm : Nat
  R : Option Addr
  rn : Nat
  cr : Nat
  D : Option Addr
  dn : Nat
  cd : Nat
def snV (a : SnS) (lvl : Int) : Value := .agg #[.slice a.E a.en a.ce, .slice a.M a.mn a.cm, .slice a.R a.rn a.cr, .slice a.D a.dn a.cd, .int .i64 lvl]
def stV (a : SnS) (lvl : Int) (C : Option Addr) (cn cc : Nat) (cnt : Int) (exp shut : Bool) : Value := .agg #[.slice a.E a.en a.ce, .slice a.M a.mn a.cm, .slice a.R a.rn a.cr, .slice a.D a.dn a.cd, .int .i64 lvl, .slice C cn cc, .int .i64 cnt, .bool exp, .bool shut]
def snZ : SnS := ⟨none, 0, 0, none, 0, 0, none, 0, 0, none, 0, 0⟩
def okSn (a : SnS) (lvl : Int) (cn : Nat) : Bool := decide (a.en = 16 ∧ a.mn = 16 ∧ a.rn = 16 ∧ a.dn = 16 ∧ Sec.lvOk lvl = true) && decide (cn = 8)
set_option maxRecDepth 100000 in
theorem ref24_First (w0 : World) (a : SnS) (lvl : Int) (C : Option Addr) (cn cc : Nat) :
    Calls Tryz.prog 6 #[snV a lvl, .slice C cn cc] w0 fun e w' => e = .returned (.tuple #[if okSn a lvl cn = true then stV a lvl C cn cc 0 false false else stV snZ 0 none 0 0 0 false false, .bool (okSn a lvl cn)]) ∧ Below w0.heap.size w0 w' := by
  obtain ⟨E, en, ce, M, mn, cm, R, rn, cr, D, dn, cd⟩ := a
  have hv := fun u => ref24_Valid u E M R D en ce mn cm rn cr dn cd lvl
  unfold okSn
  dsimp only
  generalize decide (en = 16 ∧ mn = 16 ∧ rn = 16 ∧ dn = 16 ∧ Sec.lvOk lvl = true) = b at *
  have HV := Lib.hid hv
  clear hv
  have hm := Mem.nil (fun _ => False) w0
  unfold snV stV snZ
  dsimp only
  cases b with
  | false =>
    simp only [Bool.false_and, Bool.false_eq_true, if_false]
    go_enter Tryz.func6, Tryz.ntmps6
    go_wp2_with (first | go_skip | ((with_reducible show wpList _ _ _ _ _ (World.alloc _ _)); refine wpList_up hm ?_; clear hm; intro n w hn hn2 hk hm hd hd2 ho; (try rw [← hn]); replace hn := Nat.le_of_eq hn.symm) | ((first | ((with_reducible show wpList _ _ _ (Oper.mk _ (Op.box _ _) _ _ _ _ :: _) _ _); (refine bxA hm ?_; clear hm; intro n w hn hz hm ho; (try simp only [List.cons_append, List.nil_append] at hm))) | ((with_reducible show wpList _ _ _ (Oper.mk _ (Op.load _ _) _ _ _ _ :: _) _ _); first | (refine ldA hm ?_) | (refine laA hm ?_)) | ((with_reducible show wpList _ _ _ (Oper.mk _ (Op.store _ _ _) _ _ _ _ :: _) _ _); (refine stA hm ?_; clear hm; intro w hz hm ho)) | ((with_reducible show wpList _ _ _ (Oper.mk _ (Op.alloc _) _ _ _ _ :: _) _ _); (refine alA hm ?_; clear hm; intro n w hn hz hm ho; (try simp only [List.cons_append, List.nil_append] at hm)))); try simp only [Act.put, sxQ]) | (go_at_call 12; refine (HV.out _).mono ?_; rintro e w2 ⟨rfl, hbl⟩; replace hm := hm.below hbl))
    refine bodyPost_ret (results_row_tmp rfl _ _ _ 36 _ (0, 0) _ rfl (by exact hm.at_ 1 rfl) Tryz.underlying36 rfl (by kernel_rfl)) rfl ⟨rfl, hm.low⟩
  | true =>
    by_cases h8 : cn = 8
    · subst h8
      simp only [decide_true, Bool.and_self, if_true]
      go_enter Tryz.func6, Tryz.ntmps6
      go_wp2_with (first | go_skip | ((with_reducible show wpList _ _ _ _ _ (World.alloc _ _)); refine wpList_up hm ?_; clear hm; intro n w hn hn2 hk hm hd hd2 ho; (try rw [← hn]); replace hn := Nat.le_of_eq hn.symm) | ((first | ((with_reducible show wpList _ _ _ (Oper.mk _ (Op.box _ _) _ _ _ _ :: _) _ _); (refine bxA hm ?_; clear hm; intro n w hn hz hm ho; (try simp only [List.cons_append, List.nil_append] at hm))) | ((with_reducible show wpList _ _ _ (Oper.mk _ (Op.load _ _) _ _ _ _ :: _) _ _); first | (refine ldA hm ?_) | (refine laA hm ?_)) | ((with_reducible show wpList _ _ _ (Oper.mk _ (Op.store _ _ _) _ _ _ _ :: _) _ _); (refine stA hm ?_; clear hm; intro w hz hm ho)) | ((with_reducible show wpList _ _ _ (Oper.mk _ (Op.alloc _) _ _ _ _ :: _) _ _); (refine alA hm ?_; clear hm; intro n w hn hz hm ho; (try simp only [List.cons_append, List.nil_append] at hm)))); try simp only [Act.put, sxQ]) | (go_at_call 12; refine (HV.out _).mono ?_; rintro e w2 ⟨rfl, hbl⟩; replace hm := hm.below hbl))
      refine bodyPost_ret (results_row_tmp rfl _ _ _ 36 _ (0, 0) _ rfl (by exact hm.at_ 1 rfl) Tryz.underlying36 rfl (by kernel_rfl)) rfl ⟨rfl, hm.low⟩
    · have i8 : ((cn : Int) == 8) = false := by rw [beq_eq_false_iff_ne]; omega
      have j8 : ((cn : Int) != 8) = true := by rw [bne_iff_ne]; omega
      simp only [decide_eq_false h8, Bool.and_false, Bool.false_eq_true, if_false]
      clear h8
      go_enter Tryz.func6, Tryz.ntmps6
      go_wp2_with (first | go_skip | ((with_reducible show wpList _ _ _ _ _ (World.alloc _ _)); refine wpList_up hm ?_; clear hm; intro n w hn hn2 hk hm hd hd2 ho; (try rw [← hn]); replace hn := Nat.le_of_eq hn.symm) | ((first | ((with_reducible show wpList _ _ _ (Oper.mk _ (Op.box _ _) _ _ _ _ :: _) _ _); (refine bxA hm ?_; clear hm; intro n w hn hz hm ho; (try simp only [List.cons_append, List.nil_append] at hm))) | ((with_reducible show wpList _ _ _ (Oper.mk _ (Op.load _ _) _ _ _ _ :: _) _ _); first | (refine ldA hm ?_) | (refine laA hm ?_)) | ((with_reducible show wpList _ _ _ (Oper.mk _ (Op.store _ _ _) _ _ _ _ :: _) _ _); (refine stA hm ?_; clear hm; intro w hz hm ho)) | ((with_reducible show wpList _ _ _ (Oper.mk _ (Op.alloc _) _ _ _ _ :: _) _ _); (refine alA hm ?_; clear hm; intro n w hn hz hm ho; (try simp only [List.cons_append, List.nil_append] at hm)))); try simp only [Act.put, sxQ]) | (go_at_call 12; refine (HV.out _).mono ?_; rintro e w2 ⟨rfl, hbl⟩; replace hm := hm.below hbl))
      refine bodyPost_ret (results_row_tmp rfl _ _ _ 36 _ (0, 0) _ rfl (by exact hm.at_ 1 rfl) Tryz.underlying36 rfl (by kernel_rfl)) rfl ⟨rfl, hm.low⟩
/-- A session in memory. -/
structure SnAt (w : World) (a : SnS) (s : Sec.S) (C : Option Addr) (cn cc : Nat) : Prop where
  enc : Byt w w.heap.size a.E a.en a.ce s.enc
  mac : Byt w w.heap.size a.M a.mn a.cm s.mac
  rmac : Byt w w.heap.size a.R a.rn a.cr s.rmac
  dat : Byt w w.heap.size a.D a.dn a.cd s.dat
  chain : Byt w w.heap.size C cn cc s.chain
  lvl : -9223372036854775808 ≤ s.lvl ∧ s.lvl ≤ 9223372036854775807
  cnt : s.cnt = 0
  exp : s.exp = false
  shut : s.shut = false
theorem SnAt.below {w w' : World} {a : SnS} {s : Sec.S} {C : Option Addr} {cn cc : Nat} (h : SnAt w a s C cn cc) (hb : Below w.heap.size w w') : SnAt w' a s C cn cc :=
  ⟨(h.enc.below hb).more hb.size, (h.mac.below hb).more hb.size, (h.rmac.below hb).more hb.size, (h.dat.below hb).more hb.size, (h.chain.below hb).more hb.size, h.lvl, h.cnt, h.exp, h.shut⟩
theorem SnAt.valid {w : World} {a : SnS} {s : Sec.S} {C : Option Addr} {cn cc : Nat} (h : SnAt w a s C cn cc) : Sec.valid s.enc s.mac s.rmac s.dat s.lvl s.chain = okSn a s.lvl cn := by
  unfold Sec.valid okSn
  rw [h.enc.1, h.mac.1, h.rmac.1, h.dat.1, h.chain.1, Bool.eq_iff_iff]
  simp only [decide_eq_true_eq, Bool.and_eq_true]
  constructor
  · rintro ⟨a, b, c, d, e, f⟩; exact ⟨⟨a, b, c, d, e⟩, f⟩
  · rintro ⟨⟨a, b, c, d, e⟩, f⟩; exact ⟨a, b, c, d, e, f⟩
theorem SnAt.new {w : World} {a : SnS} {s : Sec.S} {C : Option Addr} {cn cc : Nat} (h : SnAt w a s C cn cc) : Calls Tryz.prog 5 #[snV a s.lvl, .slice C cn cc] w (NewRes w (okSn a s.lvl cn) s) := by
  have hn := ch_new w a.E a.M a.R a.D C a.en a.ce a.mn a.cm a.rn a.cr a.dn a.cd cn cc s.enc s.mac s.rmac s.dat s.chain s.lvl h.lvl h.enc h.mac h.rmac h.dat h.chain
  rw [h.valid] at hn
  have hs : (⟨s.enc, s.mac, s.rmac, s.dat, s.lvl, s.chain, 0, false, false⟩ : Sec.S) = s := by
    have h1 := h.cnt; have h2 := h.exp; have h3 := h.shut
    obtain ⟨_, _, _, _, _, _, _, _, _⟩ := s
    simp only at h1 h2 h3
    subst h1; subst h2; subst h3
    rfl
  rw [hs] at hn
  exact hn
/-- What pair leaves. -/
def PrRes (w : World) (v : Bool) (s : Sec.S) (e : Ending) (w' : World) : Prop :=
  (v = false ∧ e = .returned (.tuple #[.pointer none, .pointer none, .bool false]) ∧ Below w.heap.size w w') ∨
  (v = true ∧ ∃ u g1 F1 g2 F2, e = .returned (.tuple #[.pointer (some ⟨g1, 0, none⟩), .pointer (some ⟨g2, 0, none⟩), .bool true]) ∧ Below w.heap.size w u ∧ ChAt' u g1 F1 s ∧ (∀ q, F1 q → w.heap.size ≤ q) ∧ Below u.heap.size u w' ∧ ChAt' w' g2 F2 s ∧ ∀ q, F2 q → u.heap.size ≤ q)
end Go.Proofs.YtibaibdgpnkdnaaGreatDoor
