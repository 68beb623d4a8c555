/-
  The reference of the channel: has, size, plain, covered; what its calls leave.
-/
import Derived.Test.YtibaibdgpnkdnaaGreatDoorZ1
import Derived.Test.YtibaibdgpnkdnaaGreatDoorSecRB
import Derived.Test.YtibaibdgpnkdnaaGreatDoorSecL
namespace Go.Proofs.YtibaibdgpnkdnaaGreatDoor
set_option maxRecDepth 100000
set_option linter.unusedSimpArgs false
set_option linter.unusedVariables false
open Go.RowKit
set_option maxHeartbeats 8000000

theorem results_row_row_tmp {P : Program} {fn : Func} {p q u : Tmp} {ty tz : TypeId} (h : fn.results = #[.cell p ty, .cell q tz, .tmp u]) (tmps : Array Value) (w : World) (g : Nat) (t : TypeId) (cs : Array Value) (fr : Nat × Nat) (d : TypeDesc)
    (hp : tmps.getD p undef = .pointer (some ⟨g, 0, none⟩)) (hg : w.heap[g]? = some (.cells cs t fr))
    (hu : P.underlying ty = some d) (hd : (match d with | .struct _ | .array _ _ => true | _ => false) = true) (hi : (P.info? ty).map (·.size) = some cs.size)
    (g' : Nat) (t' : TypeId) (cs' : Array Value) (fr' : Nat × Nat) (d' : TypeDesc) (hp' : tmps.getD q undef = .pointer (some ⟨g', 0, none⟩)) (hg' : w.heap[g']? = some (.cells cs' t' fr'))
    (hu' : P.underlying tz = some d') (hd' : (match d' with | .struct _ | .array _ _ => true | _ => false) = true) (hi' : (P.info? tz).map (·.size) = some cs'.size) :
    (results fn tmps).run P w = .ok (.tuple #[.agg cs, .agg cs', tmps.getD u undef]) w := by
  have hL := run_loadVar_row w g t ty cs fr d hg hu hd hi
  have hL' := run_loadVar_row w g' t' tz cs' fr' d' hg' hu' hd' hi'
  have e1 : tmps[p]?.getD undef = .pointer (some ⟨g, 0, none⟩) := by simpa using hp
  have e2 : tmps[q]?.getD undef = .pointer (some ⟨g', 0, none⟩) := by simpa using hp'
  simp only [results, h]
  simp [Sem.run_bind, Result.andThen, e1, e2, asAddr, hL, hL']
/-- The blocks of a side by value stay old or are new. -/
theorem rst_far {F : Nat → Prop} {k : Nat} {a : ChS} {s s' : Sec.S} (h : Far F (rst a s)) : Far (fun q => F q ∨ k ≤ q) (rst a s') := by
  intro A n c hm hn x e
  have hm' : Value.slice A n c ∈ (rst a s).toList := by
    simp [rst, cch] at hm ⊢
    exact hm
  exact .inl (h A n c hm' hn x e)
theorem rst_far_chain {F : Nat → Prop} {k : Nat} {a : ChS} {s s' : Sec.S} {C : Option Addr} {cc : Nat} (h : Far F (rst a s)) (hn : ∀ x, C = some x → k ≤ x.block) : Far (fun q => F q ∨ k ≤ q) (rst { a with C := C, cc := cc } s') := by
  intro A n c hm hn2 x e
  simp [rst, cch] at hm
  have key : ∀ A n c, Value.slice A n c ∈ (rst a s).toList → 0 < n → ∀ x, A = some x → F x.block := h
  rcases hm with ⟨rfl, rfl, rfl⟩ | ⟨rfl, rfl, rfl⟩ | ⟨rfl, rfl, rfl⟩ | ⟨rfl, rfl, rfl⟩ | ⟨rfl, rfl, rfl⟩
  · exact .inl (key a.E 16 a.ce (by simp [rst, cch]) hn2 x e)
  · exact .inl (key a.M 16 a.cm (by simp [rst, cch]) hn2 x e)
  · exact .inl (key a.R 16 a.cr (by simp [rst, cch]) hn2 x e)
  · exact .inl (key a.D 16 a.cd (by simp [rst, cch]) hn2 x e)
  · exact .inr (hn x e)
def FarS (F : Nat → Prop) (A : Option Addr) (n : Nat) : Prop := 0 < n → ∀ a, A = some a → F a.block
theorem ref24_has {lvl bit : Int} (hl : Sec.lvOk lvl = true) (hb : bit = 1 ∨ bit = 2 ∨ bit = 16 ∨ bit = 32) {v : Bool} (hv : Sec.hb lvl bit = v) (w : World) :
    Calls Tryz.prog 43 #[.int .i64 lvl, .int .i64 bit] w fun e w' => e = .returned (.bool v) ∧ w' = w := by
  subst hv
  rcases Sec.lv_cases hl with rfl | rfl | rfl | rfl | rfl | rfl <;> rcases hb with rfl | rfl | rfl | rfl
  all_goals
    go_enter Tryz.func43, Tryz.ntmps43
    go_wp2_with fail
    go_ret
    exact ⟨rfl, rfl⟩
theorem ref24_size (n : Nat) (hn : n ≤ 1000000) (mac enc : Bool) (w : World) :
    Calls Tryz.prog 44 #[.int .i64 (n : Int), .bool mac, .bool enc] w fun e w' => e = .returned (.int .i64 ((Sec.sz n enc + (if mac then 8 else 0) : Nat) : Int)) ∧ w' = w := by
  have e : ((Sec.sz n enc + (if mac then 8 else 0) : Nat) : Int) = (if enc = true ∧ 0 < n then (n : Int) + 8 - (n : Int) % 8 else n) + (if mac then 8 else 0) := by
    unfold Sec.sz
    by_cases h : enc = true ∧ 0 < n
    · rw [if_pos h, if_pos h]; cases mac <;> simp <;> omega
    · rw [if_neg h, if_neg h]; cases mac <;> simp
  rw [e]
  clear e
  generalize hq9 : (if enc = true ∧ 0 < n then (n : Int) + 8 - (n : Int) % 8 else n) + (if mac then 8 else 0) = z
  have h0 : 0 ≤ (n : Int) ∧ (n : Int) ≤ 1000000 := by omega
  obtain ⟨i0, i1⟩ := h0
  by_cases hz : 0 < n
  · have i2 : decide ((0 : Int) < (n : Int)) = true := decide_eq_true (by omega)
    have i3 : decide (0 < n) = true := decide_eq_true hz
    cases enc <;> cases mac
    all_goals
      have HQ9 := Lib.hid hq9
      clear hq9
      go_enter Tryz.func44, Tryz.ntmps44
      go_wp2_with fail
      go_ret
      exact ⟨ret_int (by have h := HQ9.out; simp [hz] at h; omega), rfl⟩
  · have i2 : decide ((0 : Int) < (n : Int)) = false := decide_eq_false (by omega)
    have i3 : decide (0 < n) = false := decide_eq_false hz
    cases enc <;> cases mac
    all_goals
      have HQ9 := Lib.hid hq9
      clear hq9
      go_enter Tryz.func44, Tryz.ntmps44
      go_wp2_with fail
      go_ret
      exact ⟨ret_int (by have h := HQ9.out; simp [hz] at h; omega), rfl⟩
/-- What is wrong with a command, apart from its length. -/
def Sec.plainE (x : Apd.Cmd) : Int := if Sec.chkC x ≠ 0 then Sec.chkC x else if Apd.cok x.cla = false ∨ x.cla / 4 % 2 = 1 ∨ x.cla / 16 % 2 = 1 then 4 else 0
def Sec.covE (s : Sec.S) (x : Apd.Cmd) : Int := if Sec.chkC x ≠ 0 then Sec.chkC x else if Apd.cok x.cla = false ∨ x.cla / 16 % 2 = 1 ∨ (x.cla / 4 % 2 = 1 ∧ Sec.hb s.lvl 1 = false) then 4
  else if Sec.hb s.lvl 1 = true ∧ (¬ x.cla / 4 % 2 = 1 ∨ x.d.length < 8) then 5 else 0
set_option maxRecDepth 100000 in
theorem ref24_plain (cla ins p1 p2 : Int) (A : Option Addr) (dn c : Nat) (b : List UInt8) (hb : b.length = dn) (le : Int) (long : Bool) (w0 : World) :
    Calls Tryz.prog 42 #[cmdV cla ins p1 p2 A dn c le long] w0 fun e w' => e = .returned (.int .i64 (Sec.plainE ⟨cla, ins, p1, p2, b, le, long⟩)) ∧ Below w0.heap.size w0 w' := by
  subst hb
  have hck := fun u => ref04_Check cla ins p1 p2 A b.length c le long u
  have hcl := fun u => ref04_Class cla u
  unfold Sec.plainE Sec.chkC
  dsimp only
  have hm := Mem.nil (fun _ => False) w0
  unfold cmdV at hck ⊢
  generalize Apd.chk cla ins p1 p2 b.length le long = ck at *
  have HCK := Lib.hid hck
  clear hck
  by_cases h0 : ck = 0
  rotate_left 1
  · have i0 : (ck != 0) = true := bne_iff_ne.2 h0
    rw [if_pos h0]
    clear h0 hcl
    go_enter Tryz.func42, Tryz.ntmps42
    go_wp2_with (first | go_skip | ((with_reducible show wpList _ _ _ _ _ (World.alloc _ _)); refine wpList_up hm ?_; clear hm; intro n w hn hn2 hk hm hd hd2 ho; (try rw [← hn]); replace hn := Nat.le_of_eq hn.symm) | ((first | ((with_reducible show wpList _ _ _ (Oper.mk _ (Op.box _ _) _ _ _ _ :: _) _ _); (refine bxA hm ?_; clear hm; intro n w hn hz hm ho; (try simp only [List.cons_append, List.nil_append] at hm))) | ((with_reducible show wpList _ _ _ (Oper.mk _ (Op.load _ _) _ _ _ _ :: _) _ _); first | (refine ldA hm ?_) | (refine laA hm ?_)) | ((with_reducible show wpList _ _ _ (Oper.mk _ (Op.store _ _ _) _ _ _ _ :: _) _ _); (refine stA hm ?_; clear hm; intro w hz hm ho)) | ((with_reducible show wpList _ _ _ (Oper.mk _ (Op.alloc _) _ _ _ _ :: _) _ _); (refine alA hm ?_; clear hm; intro n w hn hz hm ho; (try simp only [List.cons_append, List.nil_append] at hm)))); try simp only [Act.put, sxQ]) | (go_at_call 66; refine (HCK.out _).mono ?_; rintro e w2 ⟨rfl, hbl⟩; replace hm := hm.below hbl))
    go_ret
    exact ⟨rfl, hm.low⟩
  subst h0
  rw [if_neg (fun e => e rfl)]
  unfold Apd.clsV infoV at hcl
  cases hk : Apd.cok cla with
  | false =>
    rw [if_pos (.inl rfl)]
    rw [hk, if_neg (by decide)] at hcl
    have HCL := Lib.hid hcl
    clear hcl hk
    go_enter Tryz.func42, Tryz.ntmps42
    go_wp2_with (first | go_skip | ((with_reducible show wpList _ _ _ _ _ (World.alloc _ _)); refine wpList_up hm ?_; clear hm; intro n w hn hn2 hk hm hd hd2 ho; (try rw [← hn]); replace hn := Nat.le_of_eq hn.symm) | ((first | ((with_reducible show wpList _ _ _ (Oper.mk _ (Op.box _ _) _ _ _ _ :: _) _ _); (refine bxA hm ?_; clear hm; intro n w hn hz hm ho; (try simp only [List.cons_append, List.nil_append] at hm))) | ((with_reducible show wpList _ _ _ (Oper.mk _ (Op.load _ _) _ _ _ _ :: _) _ _); first | (refine ldA hm ?_) | (refine laA hm ?_)) | ((with_reducible show wpList _ _ _ (Oper.mk _ (Op.store _ _ _) _ _ _ _ :: _) _ _); (refine stA hm ?_; clear hm; intro w hz hm ho)) | ((with_reducible show wpList _ _ _ (Oper.mk _ (Op.alloc _) _ _ _ _ :: _) _ _); (refine alA hm ?_; clear hm; intro n w hn hz hm ho; (try simp only [List.cons_append, List.nil_append] at hm)))); try simp only [Act.put, sxQ]) | (go_at_call 66; refine (HCK.out _).mono ?_; rintro e w2 ⟨rfl, hbl⟩; replace hm := hm.below hbl) | (go_at_call 45; refine (HCL.out _).mono ?_; rintro e w2 ⟨rfl, hbl⟩; replace hm := hm.below hbl))
    go_ret
    exact ⟨rfl, hm.low⟩
  | true =>
    rw [hk, if_pos rfl] at hcl
    rw [show (if true = false ∨ cla / 4 % 2 = 1 ∨ cla / 16 % 2 = 1 then (4 : Int) else 0) = if ((cla / 4 % 2 == 1) || (cla / 16 % 2 == 1)) = true then 4 else 0 by simp]
    generalize (cla / 4 % 2 == 1) = b4 at *
    generalize (cla / 16 % 2 == 1) = b16 at *
    generalize (cla / 128 == 1) = b128 at *
    have HCL := Lib.hid hcl
    clear hcl hk
    cases b4 <;> cases b16
    all_goals
      go_enter Tryz.func42, Tryz.ntmps42
      go_wp2_with (first | go_skip | ((with_reducible show wpList _ _ _ _ _ (World.alloc _ _)); refine wpList_up hm ?_; clear hm; intro n w hn hn2 hk hm hd hd2 ho; (try rw [← hn]); replace hn := Nat.le_of_eq hn.symm) | ((first | ((with_reducible show wpList _ _ _ (Oper.mk _ (Op.box _ _) _ _ _ _ :: _) _ _); (refine bxA hm ?_; clear hm; intro n w hn hz hm ho; (try simp only [List.cons_append, List.nil_append] at hm))) | ((with_reducible show wpList _ _ _ (Oper.mk _ (Op.load _ _) _ _ _ _ :: _) _ _); first | (refine ldA hm ?_) | (refine laA hm ?_)) | ((with_reducible show wpList _ _ _ (Oper.mk _ (Op.store _ _ _) _ _ _ _ :: _) _ _); (refine stA hm ?_; clear hm; intro w hz hm ho)) | ((with_reducible show wpList _ _ _ (Oper.mk _ (Op.alloc _) _ _ _ _ :: _) _ _); (refine alA hm ?_; clear hm; intro n w hn hz hm ho; (try simp only [List.cons_append, List.nil_append] at hm)))); try simp only [Act.put, sxQ]) | (go_at_call 66; refine (HCK.out _).mono ?_; rintro e w2 ⟨rfl, hbl⟩; replace hm := hm.below hbl) | (go_at_call 45; refine (HCL.out _).mono ?_; rintro e w2 ⟨rfl, hbl⟩; replace hm := hm.below hbl))
      go_ret
      exact ⟨rfl, hm.low⟩
set_option maxRecDepth 100000 in
theorem ref24_covered (a : ChS) (s : Sec.S) (hl : Sec.lvOk s.lvl = true) (cla ins p1 p2 : Int) (A : Option Addr) (dn c : Nat) (b : List UInt8) (hb : b.length = dn) (hdn : dn ≤ 1000000) (le : Int) (long : Bool) (w0 : World) :
    Calls Tryz.prog 51 #[.agg (rst a s), cmdV cla ins p1 p2 A dn c le long] w0 fun e w' => e = .returned (.int .i64 (Sec.covE s ⟨cla, ins, p1, p2, b, le, long⟩)) ∧ Below w0.heap.size w0 w' := by
  subst hb
  have hck := fun u => ref04_Check cla ins p1 p2 A b.length c le long u
  have hcl := fun u => ref04_Class cla u
  obtain ⟨v1, hv1⟩ : ∃ v, Sec.hb s.lvl 1 = v := ⟨_, rfl⟩
  have HB1 := Lib.hid (ref24_has hl (.inl rfl) hv1)
  have HB2 := HB1
  unfold Sec.covE Sec.chkC
  dsimp only
  rw [hv1]
  clear hv1 hl
  have hm := Mem.nil (fun _ => False) w0
  obtain ⟨E, ce, M, cm, R, cr, D, cd, C, cc⟩ := a
  unfold rst cch
  unfold cmdV at hck ⊢
  generalize Apd.chk cla ins p1 p2 b.length le long = ck at *
  have HCK := Lib.hid hck
  clear hck
  by_cases h0 : ck = 0
  rotate_left 1
  · have i0 : (ck != 0) = true := bne_iff_ne.2 h0
    rw [if_pos h0]
    clear h0 hcl
    go_enter Tryz.func51, Tryz.ntmps51
    go_wp2_with (first | go_skip | ((with_reducible show wpList _ _ _ _ _ (World.alloc _ _)); refine wpList_up hm ?_; clear hm; intro n w hn hn2 hk hm hd hd2 ho; (try rw [← hn]); replace hn := Nat.le_of_eq hn.symm) | ((first | ((with_reducible show wpList _ _ _ (Oper.mk _ (Op.box _ _) _ _ _ _ :: _) _ _); (refine bxA hm ?_; clear hm; intro n w hn hz hm ho; (try simp only [List.cons_append, List.nil_append] at hm))) | ((with_reducible show wpList _ _ _ (Oper.mk _ (Op.load _ _) _ _ _ _ :: _) _ _); first | (refine ldA hm ?_) | (refine laA hm ?_)) | ((with_reducible show wpList _ _ _ (Oper.mk _ (Op.store _ _ _) _ _ _ _ :: _) _ _); (refine stA hm ?_; clear hm; intro w hz hm ho)) | ((with_reducible show wpList _ _ _ (Oper.mk _ (Op.alloc _) _ _ _ _ :: _) _ _); (refine alA hm ?_; clear hm; intro n w hn hz hm ho; (try simp only [List.cons_append, List.nil_append] at hm)))); try simp only [Act.put, sxQ]) | (go_at_call 66; refine (HCK.out _).mono ?_; rintro e w2 ⟨rfl, hbl⟩; replace hm := hm.below hbl))
    go_ret
    exact ⟨rfl, hm.low⟩
  subst h0
  rw [if_neg (fun e => e rfl)]
  unfold Apd.clsV infoV at hcl
  have hl8 : (decide (b.length < 8) = true ∧ decide ((b.length : Int) < 8) = true) ∨ (decide (b.length < 8) = false ∧ decide ((b.length : Int) < 8) = false) := by
    by_cases h : b.length < 8
    · exact .inl ⟨decide_eq_true h, decide_eq_true (by omega)⟩
    · exact .inr ⟨decide_eq_false h, decide_eq_false (by omega)⟩
  cases hk : Apd.cok cla with
  | false =>
    rw [if_pos (.inl rfl)]
    rw [hk, if_neg (by decide)] at hcl
    have HCL := Lib.hid hcl
    clear hcl hk hl8
    go_enter Tryz.func51, Tryz.ntmps51
    go_wp2_with (first | go_skip | ((with_reducible show wpList _ _ _ _ _ (World.alloc _ _)); refine wpList_up hm ?_; clear hm; intro n w hn hn2 hk hm hd hd2 ho; (try rw [← hn]); replace hn := Nat.le_of_eq hn.symm) | ((first | ((with_reducible show wpList _ _ _ (Oper.mk _ (Op.box _ _) _ _ _ _ :: _) _ _); (refine bxA hm ?_; clear hm; intro n w hn hz hm ho; (try simp only [List.cons_append, List.nil_append] at hm))) | ((with_reducible show wpList _ _ _ (Oper.mk _ (Op.load _ _) _ _ _ _ :: _) _ _); first | (refine ldA hm ?_) | (refine laA hm ?_)) | ((with_reducible show wpList _ _ _ (Oper.mk _ (Op.store _ _ _) _ _ _ _ :: _) _ _); (refine stA hm ?_; clear hm; intro w hz hm ho)) | ((with_reducible show wpList _ _ _ (Oper.mk _ (Op.alloc _) _ _ _ _ :: _) _ _); (refine alA hm ?_; clear hm; intro n w hn hz hm ho; (try simp only [List.cons_append, List.nil_append] at hm)))); try simp only [Act.put, sxQ]) | (go_at_call 66; refine (HCK.out _).mono ?_; rintro e w2 ⟨rfl, hbl⟩; replace hm := hm.below hbl) | (go_at_call 45; refine (HCL.out _).mono ?_; rintro e w2 ⟨rfl, hbl⟩; replace hm := hm.below hbl) | (go_at_call 43; first | (refine (HB1.out _).mono ?_; rintro e w2 ⟨rfl, rfl⟩) | (refine (HB2.out _).mono ?_; rintro e w2 ⟨rfl, rfl⟩)))
    go_ret
    exact ⟨rfl, hm.low⟩
  | true =>
    rw [hk, if_pos rfl] at hcl
    rw [show (if true = false ∨ cla / 16 % 2 = 1 ∨ cla / 4 % 2 = 1 ∧ v1 = false then (4 : Int) else if v1 = true ∧ (¬ cla / 4 % 2 = 1 ∨ b.length < 8) then 5 else 0) = if ((cla / 16 % 2 == 1) || ((cla / 4 % 2 == 1) && !v1)) = true then 4 else if (v1 && (!(cla / 4 % 2 == 1) || decide (b.length < 8))) = true then 5 else 0 by cases v1 <;> simp]
    generalize (cla / 4 % 2 == 1) = b4 at *
    generalize (cla / 16 % 2 == 1) = b16 at *
    generalize (cla / 128 == 1) = b128 at *
    have HCL := Lib.hid hcl
    clear hcl hk
    rcases hl8 with ⟨i8, j8⟩ | ⟨i8, j8⟩
    all_goals
      rw [i8]
      clear i8
      cases b4 <;> cases b16 <;> cases v1
    all_goals
      go_enter Tryz.func51, Tryz.ntmps51
      go_wp2_with (first | go_skip | ((with_reducible show wpList _ _ _ _ _ (World.alloc _ _)); refine wpList_up hm ?_; clear hm; intro n w hn hn2 hk hm hd hd2 ho; (try rw [← hn]); replace hn := Nat.le_of_eq hn.symm) | ((first | ((with_reducible show wpList _ _ _ (Oper.mk _ (Op.box _ _) _ _ _ _ :: _) _ _); (refine bxA hm ?_; clear hm; intro n w hn hz hm ho; (try simp only [List.cons_append, List.nil_append] at hm))) | ((with_reducible show wpList _ _ _ (Oper.mk _ (Op.load _ _) _ _ _ _ :: _) _ _); first | (refine ldA hm ?_) | (refine laA hm ?_)) | ((with_reducible show wpList _ _ _ (Oper.mk _ (Op.store _ _ _) _ _ _ _ :: _) _ _); (refine stA hm ?_; clear hm; intro w hz hm ho)) | ((with_reducible show wpList _ _ _ (Oper.mk _ (Op.alloc _) _ _ _ _ :: _) _ _); (refine alA hm ?_; clear hm; intro n w hn hz hm ho; (try simp only [List.cons_append, List.nil_append] at hm)))); try simp only [Act.put, sxQ]) | (go_at_call 66; refine (HCK.out _).mono ?_; rintro e w2 ⟨rfl, hbl⟩; replace hm := hm.below hbl) | (go_at_call 45; refine (HCL.out _).mono ?_; rintro e w2 ⟨rfl, hbl⟩; replace hm := hm.below hbl) | (go_at_call 43; first | (refine (HB1.out _).mono ?_; rintro e w2 ⟨rfl, rfl⟩) | (refine (HB2.out _).mono ?_; rintro e w2 ⟨rfl, rfl⟩)))
      go_ret
      exact ⟨rfl, hm.low⟩
end Go.Proofs.YtibaibdgpnkdnaaGreatDoor
