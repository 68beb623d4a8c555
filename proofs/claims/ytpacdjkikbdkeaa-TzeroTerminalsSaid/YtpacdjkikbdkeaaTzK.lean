/-
  The card's reference: words, join, has, incoming, NewCard, length, left.
-/
import Derived.Test.YtpacdjkikbdkeaaZ0
import Derived.Test.YtpacdjkikbdkeaaTzI
import Derived.Test.YtpacdjkikbdkeaaZ1
namespace Go.Proofs.Ytpacdjkikbdkeaa
set_option maxRecDepth 100000
set_option linter.unusedSimpArgs false
set_option linter.unusedVariables false
open Go.RowKit
set_option maxHeartbeats 8000000

/-- A card of the reference, by value. -/
def RCAt (w : World) (l : List Int) (s : Tz.S) (cs : Array Value) : Prop :=
  ∃ ia ic ga gc da dc ka kc, cs = #[.slice ia l.length ic, .int .i64 (s.ph : Int), .slice ga s.got.length gc, .int .i64 s.cmd.cla, .int .i64 s.cmd.ins, .int .i64 s.cmd.p1, .int .i64 s.cmd.p2, .slice da s.cmd.d.length dc, .int .i64 s.cmd.le, .bool false, .slice ka s.kept.length kc, .int .i64 s.sw] ∧
    Ints w w.heap.size ia l.length ic l ∧ Byt w w.heap.size ga s.got.length gc s.got ∧ Byt w w.heap.size da s.cmd.d.length dc s.cmd.d ∧ Byt w w.heap.size ka s.kept.length kc s.kept
theorem RCAt.below {w w' : World} {l : List Int} {s : Tz.S} {cs : Array Value} (h : RCAt w l s cs) (hb : Below w.heap.size w w') : RCAt w' l s cs := by
  obtain ⟨ia, ic, ga, gc, da, dc, ka, kc, e, h1, h2, h3, h4⟩ := h
  exact ⟨ia, ic, ga, gc, da, dc, ka, kc, e, (h1.below hb).more hb.size, (h2.below hb).more hb.size, (h3.below hb).more hb.size, (h4.below hb).more hb.size⟩
theorem RCAt.far {w u : World} {F R : Nat → Prop} {l : List Int} {s : Tz.S} {cs : Array Value} (h : RCAt w l s cs) (hf : Far F cs) (ho : Only R w u) (hR : ∀ q, q < w.heap.size → R q → ¬ F q) : RCAt u l s cs := by
  obtain ⟨ia, ic, ga, gc, da, dc, ka, kc, rfl, h1, h2, h3, h4⟩ := h
  exact ⟨ia, ic, ga, gc, da, dc, ka, kc, rfl, ⟨h1.1, h1.2.1, h1.2.2.far (fun hn => hf.at_ 0 rfl (by rw [List.length_map] at hn; exact hn)) ho hR⟩, h2.far (hf.at_ 2 rfl) ho hR, h3.far (hf.at_ 7 rfl) ho hR, h4.far (hf.at_ 10 rfl) ho hR⟩
theorem RCAt.far_low {w : World} {l : List Int} {s : Tz.S} {cs : Array Value} (h : RCAt w l s cs) : Far (fun q => q < w.heap.size) cs := by
  obtain ⟨ia, ic, ga, gc, da, dc, ka, kc, rfl, h1, h2, h3, h4⟩ := h
  have hx : ∀ {A : Option Addr} {cs : List Value}, Row w w.heap.size A cs → 0 < cs.length → ∀ a, A = some a → a.block < w.heap.size := fun h hn a e => by
    obtain ⟨b, o, e2, hb, _⟩ := h hn
    rw [e] at e2; injection e2 with e2; rw [e2]; exact hb
  have g1 := fun hn => hx h1.2.2 (by rw [List.length_map]; exact hn)
  have g2 := fun hn => hx h2.2.2 (by rw [length_bcells]; exact hn)
  have g3 := fun hn => hx h3.2.2 (by rw [length_bcells]; exact hn)
  have g4 := fun hn => hx h4.2.2 (by rw [length_bcells]; exact hn)
  intro A n c hm hn a e
  simp only [List.mem_cons, List.not_mem_nil, or_false] at hm
  rcases hm with hm | hm | hm | hm | hm | hm | hm | hm | hm | hm | hm | hm
  all_goals first | (cases hm; done) | (injection hm with q1 q2 q3; subst q1 q2; first | exact g1 hn a e | exact g2 hn a e | exact g3 hn a e | exact g4 hn a e)
/-- A card and bytes come out of the card cs0. -/
def RCRes (cs0 : Array Value) (w : World) (l : List Int) (s : Tz.S) (bs : List UInt8) (e : Ending) (w' : World) : Prop :=
  ∃ cs A c, e = .returned (.tuple #[.agg cs, .slice A bs.length c]) ∧ RCAt w' l s cs ∧ (∀ F, Far F cs0 → Far (fun q => F q ∨ w.heap.size ≤ q) cs) ∧ Own w' w.heap.size 5 1 A bs.length c (bcells bs) ∧ Below w.heap.size w w'
theorem Mem.low {w0 w : World} {L : List Ent} {O : List Osl} (hm : Mem (fun _ => False) w0 w L O) : Below w0.heap.size w0 w := hm.only.below (Nat.le_refl _) (fun _ _ e => e)
theorem Byt.low {w0 w : World} {L : List Ent} {O : List Osl} {A : Option Addr} {n c : Nat} {bs : List UInt8} (h : Byt w0 w0.heap.size A n c bs) (hm : Mem (fun _ => False) w0 w L O) : Byt w w.heap.size A n c bs := (h.below hm.low).more hm.only.size
theorem Mem.own_ {w0 w : World} {L : List Ent} {O : List Osl} {x : Osl} (hm : Mem (fun _ => False) w0 w L O) (k : Nat) (hk : O[k]? = some x) : Own w w0.heap.size x.t x.s x.A x.n x.c x.cs := hm.fresh k hk (fun q hq => hq.elim)

theorem ORes.mk {R : Nat → Prop} {L : List Ent} {O : List Osl} {w0 w : World} {bs X : List UInt8} {A : Option Addr} {n c : Nat} (hm : Mem R w0 w L O) (k : Nat) (hk : O[k]? = some ⟨5, 1, A, n, c, bcells X⟩) (hX : X = bs) (hn : bs.length = n) (hR : ∀ q, ¬ R q) : ORes w0 bs (.returned (.slice A n c)) w := by
  subst hX
  subst hn
  exact ⟨A, c, rfl, hm.fresh k hk (fun q hq => absurd hq (hR q)), hm.only.below (Nat.le_refl _) (fun _ _ => hR _)⟩
set_option maxRecDepth 100000 in
theorem ref07_word (sw : Int) (h : 0 ≤ sw ∧ sw ≤ 65535) (w0 : World) : Calls Try.prog 48 #[.int .i64 sw] w0 (ORes w0 (Tz.wd sw)) := by
  have u1 : IntKind.u8.wrap (sw / 256) = sw / 256 % 256 := by rw [IntKind.wrap_u8]
  have u2 : IntKind.u8.wrap (sw % 256) = sw % 256 := by rw [IntKind.wrap_u8]; omega
  have HB := Lib.hid (fun o => (Below.refl w0.heap.size w0).alloc (Nat.le_refl _) o)
  have HK := Lib.hid (Blk.new w0 5 #[.int .u8 (sw / 256 % 256), .int .u8 (sw % 256)])
  go_enter Try.func48, Try.ntmps48
  go_wp2_with fail
  go_ret
  exact ⟨_, _, rfl, own_blk HK.out (Nat.le_refl _) (by simp [bcells, Tz.wd, Tz.B8_byte]) rfl (by show 2 ≤ 1000; omega), HB.out _⟩
set_option maxRecDepth 100000 in
theorem ref07_join (A : Option Addr) (n c : Nat) (a : List UInt8) (B : Option Addr) (m c' : Nat) (b : List UInt8) (w0 : World) (ha : Byt w0 w0.heap.size A n c a) (hb : Byt w0 w0.heap.size B m c' b) (hn : n + m ≤ 1000000000) :
    Calls Try.prog 41 #[.slice A n c, .slice B m c'] w0 (ORes w0 (a ++ b)) := by
  have hm : Mem (fun _ => False) w0 w0 [] [] := Mem.nil _ w0
  have h1 := ha.1
  have h2 := hb.1
  subst h1 h2
  go_enter Try.func41, Try.ntmps41
  go_wp2_with (first | go_skip | ((with_reducible show wpList _ _ _ _ _ (World.alloc _ _)); refine wpList_up hm ?_; clear hm; intro n w hn hn2 hk hm hd hd2 ho; (try rw [← hn]); replace hn := Nat.le_of_eq hn.symm) | ((first | ((with_reducible show wpList _ _ _ (Oper.mk _ (Op.box _ _) _ _ _ _ :: _) _ _); (refine wpList_bx (by rfl) _ _ rfl _ (by simp only [Act.eval, Array.getD_eq_getD_getElem?, List.getElem?_toArray, List.getElem?_cons_succ, List.getElem?_cons_zero, Option.getD_some]; first | done | exact rfl) _ (by simp only [Value.cells]; first | done | exact rfl) hm ?_; clear hm; intro n w hn hz hm ho; (try simp only [List.cons_append, List.nil_append] at hm))) | ((with_reducible show wpList _ _ _ (Oper.mk _ (Op.load _ _) _ _ _ _ :: _) _ _); first | (refine wpList_ldS (by rfl) _ _ rfl _ _ rfl hm _ _ (by repeat (first | apply In.a | apply In.b)) (by decide +kernel) _ (by simp only [List.getElem?_toArray, List.getElem?_cons_succ, List.getElem?_cons_zero]; first | done | exact rfl) ?_) | (refine wpList_laS (by rfl) _ _ rfl _ _ rfl hm _ _ (by repeat (first | apply In.a | apply In.b)) (by kernel_rfl) _ (by rfl) (by kernel_rfl) (by simp) _ (by simp only [List.toList_toArray, List.drop_succ_cons, List.drop_zero, List.size_toArray, List.length_cons, List.length_nil, Nat.reduceAdd, List.take_succ_cons, List.take_zero]; first | done | exact rfl) ?_)) | ((with_reducible show wpList _ _ _ (Oper.mk _ (Op.store _ _ _) _ _ _ _ :: _) _ _); (refine wpList_stS (by rfl) _ _ _ rfl _ _ rfl _ (by simp only [Act.eval, Array.getD_eq_getD_getElem?, List.getElem?_toArray, List.getElem?_cons_succ, List.getElem?_cons_zero, Option.getD_some]; first | done | exact rfl) hm _ (by simp only [Value.cells]; first | done | exact rfl) _ _ _ _ (by repeat (first | apply Put.a | apply Put.b)) (by kernel_rfl) (by simp [Value.oneCell']) (by simp) (by simp only [List.set_cons_zero, List.set_cons_succ, spl, List.toList_toArray, List.size_toArray, List.length_cons, List.length_nil, Nat.reduceAdd, Nat.zero_add, List.take_succ_cons, List.take_zero, List.drop_succ_cons, List.drop_zero, List.drop_nil, List.cons_append, List.nil_append, List.append_nil]; first | done | exact rfl) ?_; clear hm; intro w hz hm ho)) | ((with_reducible show wpList _ _ _ (Oper.mk _ (Op.alloc _) _ _ _ _ :: _) _ _); (refine wpList_al (by rfl) _ rfl _ rfl _ (by simp only [Value.cells]; first | done | exact rfl) hm ?_; clear hm; intro n w hn hz hm ho; (try simp only [List.cons_append, List.nil_append] at hm)))); try simp only [Act.put, List.setIfInBounds_toArray, List.set_cons_zero, List.set_cons_succ]) | ((with_reducible show wpList _ _ _ (Oper.mk _ (Op.call { callee := Callee.builtin Builtin.append, args := #[Operand.tmp 5, Operand.tmp 6], argTypes := _ }) _ _ _ _ :: _) _ _); refine wpList_ap8 (by rfl) (.tmp 5) (.tmp 6) rfl _ 0 0 [] rfl (hm.row hk hn2 hd hd2 1 0 (bcells []) rfl rfl (by unfold maxLen; omega)) 0 rfl _ _ a.length _ a rfl (ha.low hm).2.2 rfl (by omega) ?_; clear hm; intro A3 c3 w hm ho _; try simp only [Act.put, List.setIfInBounds_toArray, List.set_cons_zero, List.set_cons_succ]) | ((with_reducible show wpList _ _ _ (Oper.mk _ (Op.call { callee := Callee.builtin Builtin.append, args := #[Operand.tmp 7, Operand.tmp 8], argTypes := _ }) _ _ _ _ :: _) _ _); refine wpList_ap8 (by rfl) (.tmp 7) (.tmp 8) rfl _ _ _ _ rfl hm 0 rfl _ _ b.length _ b rfl (hb.low hm).2.2 rfl (by omega) ?_; clear hm; intro A4 c4 w hm ho _; try simp only [Act.put, List.setIfInBounds_toArray, List.set_cons_zero, List.set_cons_succ]))
  go_ret
  exact ORes.mk hm 0 rfl rfl (by rw [List.length_append]; omega) (fun _ e => e)
set_option maxRecDepth 100000 in
theorem ref07_has (A : Option Addr) (n c : Nat) (xs : List Int) (z : Int) (w0 : World) (ha : Ints w0 w0.heap.size A n c xs) (hn : n ≤ 1000000000) :
    Calls Try.prog 67 #[.slice A n c, .int .i64 z] w0 fun e w' => e = .returned (.bool (xs.contains z)) ∧ w0 = w' := by
  have hl := Lib.hid ha.1
  have HA := Lib.hid ha
  clear ha
  go_enter Try.func67, Try.ntmps67
  go_wp2_with fail
  go_loopg [5] n (fun g i wr => ∃ k : Nat, k + g = n ∧ i = .int .i64 k ∧ Hid ((xs.take k).contains z = false) ∧ w0 = wr)
  case atStart => exact ⟨0, by omega, rfl, rfl, rfl⟩
  case round =>
    obtain ⟨k, hk, rfl, hno, rfl⟩ := hrel
    cases gk with
    | zero =>
      obtain rfl : k = n := by omega
      have e1 : xs.take k = xs := List.take_of_length_le (by rw [hl.out]; omega)
      go_wp2_with fail
      go_ret
      have := hno.out
      rw [e1] at this
      exact ⟨by rw [this]; rfl, rfl⟩
    | succ g =>
      have hkn : k < n := by omega
      obtain ⟨b, o, rfl, hbb, hc⟩ := HA.out.at_ hkn
      have p0 : (0 : Int) ≤ (k : Int) := by omega
      have p1 : (k : Int) < (n : Int) := by omega
      have HT : Hid (xs.take (k + 1) = xs.take k ++ [xs.getD k 0] ∧ xs.getD k 0 ∈ xs) := by
        have hlt : k < xs.length := by rw [hl.out]; exact hkn
        show _ ∧ _
        have e : xs.getD k 0 = xs[k] := by simp [List.getD, List.getElem?_eq_getElem hlt]
        rw [e]
        exact ⟨List.take_succ_eq_append_getElem hlt, List.getElem_mem hlt⟩
      generalize xs.getD k 0 = y at *
      by_cases e : y = z
      · have i1 : (y == z) = true := beq_iff_eq.2 e
        have HE := Lib.hid e
        clear e
        go_wp2_with fail
        go_ret
        have e := HE.out
        refine ⟨by rw [show xs.contains z = true from by rw [← e]; simpa using HT.out.2]; rfl, rfl⟩
      · have i1 : (y == z) = false := beq_eq_false_iff_ne.2 e
        have HE := Lib.hid e
        clear e
        go_wp2_with fail
        go_roundg g
        case measure => omega
        case rel =>
          refine ⟨k + 1, by omega, by go_num, ?_, rfl⟩
          show _ = _
          rw [HT.out.1]
          have h1 := hno.out
          have h2 := HE.out
          simp only [List.contains_eq_mem, List.mem_append, List.mem_singleton, decide_eq_false_iff_not] at h1 ⊢
          rintro (h | h)
          · exact h1 h
          · exact h2 h.symm
set_option maxRecDepth 100000 in
theorem ref07_length (b : UInt8) (w0 : World) : Calls Try.prog 62 #[B8 b] w0 fun e w' => e = .returned (.int .i64 (Tz.cnt b.toNat)) ∧ w0 = w' := by
  have hb := b.toNat_lt
  show Calls Try.prog 62 #[.int .u8 (b.toNat : Int)] w0 fun e w' => e = .returned (.int .i64 (Tz.cnt (b.toNat : Int))) ∧ w0 = w'
  have HC : Hid (Tz.cnt (b.toNat : Int) = if (b.toNat : Int) = 0 then (256 : Int) else (b.toNat : Int)) := by show _ = _; rfl
  generalize b.toNat = x at *
  have hw : IntKind.i64.wrap (x : Int) = x := IntWalk.i64_in _ (by omega)
  by_cases h : x = 0
  · subst h
    rw [HC.out, if_pos (show ((0 : Nat) : Int) = 0 from rfl)]
    go_enter Try.func62, Try.ntmps62
    go_wp2_with fail
    go_ret
    exact ⟨rfl, rfl⟩
  · have i0 : ((x : Int) == 0) = false := beq_eq_false_iff_ne.2 (by omega)
    rw [HC.out, if_neg (by omega)]
    clear h
    go_enter Try.func62, Try.ntmps62
    go_wp2_with fail
    go_ret
    exact ⟨rfl, rfl⟩
set_option maxRecDepth 100000 in
theorem ref07_incoming (cs : Array Value) (l : List Int) (s : Tz.S) (cla ins : Int) (w0 : World) (H : RCAt w0 l s cs) (hl : l.length ≤ 1000) :
    Calls Try.prog 49 #[.agg cs, .int .i64 cla, .int .i64 ins] w0 fun e w' => e = .returned (.bool (Tz.inc l cla ins)) ∧ Below w0.heap.size w0 w' := by
  obtain ⟨ia, ic, ga, gc, da, dc, ka, kc, rfl, hi, hg, hd0, hk0⟩ := H
  have hm : Mem (fun _ => False) w0 w0 [] [] := Mem.nil _ w0
  have HI := Lib.hid hi
  have HC : Hid (∃ z0 : Int, ∃ z1 z2 z3 : Bool, (l.contains ins || (Apd.cok cla && z1)) = Tz.inc l cla ins ∧ ∀ u : World, Calls Try.prog 35 #[.int .i64 cla] u fun e w' => e = .returned (.tuple #[.agg #[.int .i64 z0, .bool z1, .bool z2, .bool z3], .bool (Apd.cok cla)]) ∧ Below u.heap.size u w') := by
    show ∃ z0 : Int, _
    have hcl := fun u => ref04_Class cla u
    cases e3 : Apd.cok cla with
    | true =>
      refine ⟨cla % 4, cla / 4 % 2 == 1, cla / 16 % 2 == 1, cla / 128 == 1, by unfold Tz.inc Tz.sec; rw [e3], fun u => ?_⟩
      have := hcl u; unfold Apd.clsV at this; rw [e3, if_pos rfl] at this; exact this
    | false =>
      refine ⟨0, false, false, false, by unfold Tz.inc Tz.sec; rw [e3]; simp, fun u => ?_⟩
      have := hcl u; unfold Apd.clsV at this; rw [e3, if_neg (by simp)] at this; exact this
  obtain ⟨z0, z1, z2, z3, hz, hcl⟩ := HC.out
  rw [← hz]
  have HD := Lib.hid hcl
  have HH := Lib.hid (fun (w : World) (h : Ints w w.heap.size ia l.length ic l) => ref07_has ia l.length ic l ins w h (by omega))
  clear hcl HC hz hi hg hd0 hk0
  generalize l.contains ins = hc at *
  generalize Apd.cok cla = ok at *
  rcases hc with _ | _ <;> rcases ok with _ | _
  all_goals
    go_enter Try.func49, Try.ntmps49
    go_wp2_with (first | go_skip | ((with_reducible show wpList _ _ _ _ _ (World.alloc _ _)); refine wpList_up hm ?_; clear hm; intro n w hn hn2 hk hm hd hd2 ho; (try rw [← hn]); replace hn := Nat.le_of_eq hn.symm) | ((first | ((with_reducible show wpList _ _ _ (Oper.mk _ (Op.box _ _) _ _ _ _ :: _) _ _); (refine wpList_bx (by rfl) _ _ rfl _ (by simp only [Act.eval, Array.getD_eq_getD_getElem?, List.getElem?_toArray, List.getElem?_cons_succ, List.getElem?_cons_zero, Option.getD_some]; first | done | exact rfl) _ (by simp only [Value.cells]; first | done | exact rfl) hm ?_; clear hm; intro n w hn hz hm ho; (try simp only [List.cons_append, List.nil_append] at hm))) | ((with_reducible show wpList _ _ _ (Oper.mk _ (Op.load _ _) _ _ _ _ :: _) _ _); first | (refine wpList_ldS (by rfl) _ _ rfl _ _ rfl hm _ _ (by repeat (first | apply In.a | apply In.b)) (by decide +kernel) _ (by simp only [List.getElem?_toArray, List.getElem?_cons_succ, List.getElem?_cons_zero]; first | done | exact rfl) ?_) | (refine wpList_laS (by rfl) _ _ rfl _ _ rfl hm _ _ (by repeat (first | apply In.a | apply In.b)) (by kernel_rfl) _ (by rfl) (by kernel_rfl) (by simp) _ (by simp only [List.toList_toArray, List.drop_succ_cons, List.drop_zero, List.size_toArray, List.length_cons, List.length_nil, Nat.reduceAdd, List.take_succ_cons, List.take_zero]; first | done | exact rfl) ?_)) | ((with_reducible show wpList _ _ _ (Oper.mk _ (Op.store _ _ _) _ _ _ _ :: _) _ _); (refine wpList_stS (by rfl) _ _ _ rfl _ _ rfl _ (by simp only [Act.eval, Array.getD_eq_getD_getElem?, List.getElem?_toArray, List.getElem?_cons_succ, List.getElem?_cons_zero, Option.getD_some]; first | done | exact rfl) hm _ (by simp only [Value.cells]; first | done | exact rfl) _ _ _ _ (by repeat (first | apply Put.a | apply Put.b)) (by kernel_rfl) (by simp [Value.oneCell']) (by simp) (by simp only [List.set_cons_zero, List.set_cons_succ, spl, List.toList_toArray, List.size_toArray, List.length_cons, List.length_nil, Nat.reduceAdd, Nat.zero_add, List.take_succ_cons, List.take_zero, List.drop_succ_cons, List.drop_zero, List.drop_nil, List.cons_append, List.nil_append, List.append_nil]; first | done | exact rfl) ?_; clear hm; intro w hz hm ho)) | ((with_reducible show wpList _ _ _ (Oper.mk _ (Op.alloc _) _ _ _ _ :: _) _ _); (refine wpList_al (by rfl) _ rfl _ rfl _ (by simp only [Value.cells]; first | done | exact rfl) hm ?_; clear hm; intro n w hn hz hm ho; (try simp only [List.cons_append, List.nil_append] at hm)))); try simp only [Act.put, List.setIfInBounds_toArray, List.set_cons_zero, List.set_cons_succ]) | (go_at_call 35; refine (HD.out _).mono ?_; rintro e w2 ⟨rfl, hbl⟩; replace hm := hm.below hbl) | (go_at_call 67; refine (HH.out _ ((HI.out.below hm.low).more hm.only.size)).mono ?_; rintro e w' ⟨rfl, rfl⟩))
    go_ret
    exact ⟨by rfl, hm.low⟩
set_option maxRecDepth 100000 in
theorem ref07_left (cs : Array Value) (l : List Int) (s : Tz.S) (w0 : World) (H : RCAt w0 l s cs) (hk : s.kept.length ≤ 65536) :
    Calls Try.prog 50 #[.agg cs] w0 (ORes w0 (Tz.left 0x61 s.kept.length)) := by
  obtain ⟨ia, ic, ga, gc, da, dc, ka, kc, rfl, hi, hg, hd0, hk0⟩ := H
  have hm : Mem (fun _ => False) w0 w0 [] [] := Mem.nil _ w0
  clear hi hg hd0 hk0
  generalize s.kept.length = n at *
  by_cases h : 256 ≤ n
  · have i1 : (256 : Int) ≤ (n : Int) := by omega
    have HE : Hid (Tz.left 0x61 n = Tz.wd 24832) := by show _ = _; unfold Tz.left; rw [if_pos h]; rfl
    go_enter Try.func50, Try.ntmps50
    go_wp2_with (first | go_skip | ((with_reducible show wpList _ _ _ _ _ (World.alloc _ _)); refine wpList_up hm ?_; clear hm; intro n w hn hn2 hk hm hd hd2 ho; (try rw [← hn]); replace hn := Nat.le_of_eq hn.symm) | ((first | ((with_reducible show wpList _ _ _ (Oper.mk _ (Op.box _ _) _ _ _ _ :: _) _ _); (refine wpList_bx (by rfl) _ _ rfl _ (by simp only [Act.eval, Array.getD_eq_getD_getElem?, List.getElem?_toArray, List.getElem?_cons_succ, List.getElem?_cons_zero, Option.getD_some]; first | done | exact rfl) _ (by simp only [Value.cells]; first | done | exact rfl) hm ?_; clear hm; intro n w hn hz hm ho; (try simp only [List.cons_append, List.nil_append] at hm))) | ((with_reducible show wpList _ _ _ (Oper.mk _ (Op.load _ _) _ _ _ _ :: _) _ _); first | (refine wpList_ldS (by rfl) _ _ rfl _ _ rfl hm _ _ (by repeat (first | apply In.a | apply In.b)) (by decide +kernel) _ (by simp only [List.getElem?_toArray, List.getElem?_cons_succ, List.getElem?_cons_zero]; first | done | exact rfl) ?_) | (refine wpList_laS (by rfl) _ _ rfl _ _ rfl hm _ _ (by repeat (first | apply In.a | apply In.b)) (by kernel_rfl) _ (by rfl) (by kernel_rfl) (by simp) _ (by simp only [List.toList_toArray, List.drop_succ_cons, List.drop_zero, List.size_toArray, List.length_cons, List.length_nil, Nat.reduceAdd, List.take_succ_cons, List.take_zero]; first | done | exact rfl) ?_)) | ((with_reducible show wpList _ _ _ (Oper.mk _ (Op.store _ _ _) _ _ _ _ :: _) _ _); (refine wpList_stS (by rfl) _ _ _ rfl _ _ rfl _ (by simp only [Act.eval, Array.getD_eq_getD_getElem?, List.getElem?_toArray, List.getElem?_cons_succ, List.getElem?_cons_zero, Option.getD_some]; first | done | exact rfl) hm _ (by simp only [Value.cells]; first | done | exact rfl) _ _ _ _ (by repeat (first | apply Put.a | apply Put.b)) (by kernel_rfl) (by simp [Value.oneCell']) (by simp) (by simp only [List.set_cons_zero, List.set_cons_succ, spl, List.toList_toArray, List.size_toArray, List.length_cons, List.length_nil, Nat.reduceAdd, Nat.zero_add, List.take_succ_cons, List.take_zero, List.drop_succ_cons, List.drop_zero, List.drop_nil, List.cons_append, List.nil_append, List.append_nil]; first | done | exact rfl) ?_; clear hm; intro w hz hm ho)) | ((with_reducible show wpList _ _ _ (Oper.mk _ (Op.alloc _) _ _ _ _ :: _) _ _); (refine wpList_al (by rfl) _ rfl _ rfl _ (by simp only [Value.cells]; first | done | exact rfl) hm ?_; clear hm; intro n w hn hz hm ho; (try simp only [List.cons_append, List.nil_append] at hm)))); try simp only [Act.put, List.setIfInBounds_toArray, List.set_cons_zero, List.set_cons_succ]) | (go_at_call 48; refine (ref07_word _ (by omega) _).mono ?_; rintro e w2 ⟨A2, c2, rfl, hown, hbl⟩; replace hm := hm.got hbl hown))
    go_ret
    rw [HE.out]
    exact ORes.mk hm 0 rfl rfl rfl (fun _ e => e)
  · have i1 : ¬ (256 : Int) ≤ (n : Int) := by omega
    have i2 : (0 : Int) ≤ (n : Int) ∧ (n : Int) ≤ 255 := by omega
    have HE : Hid (Tz.left 0x61 n = Tz.wd (24832 + (n : Int))) := by
      show _ = _
      unfold Tz.left Tz.wd Tz.byte
      rw [if_neg h, show ((24832 + (n : Int)) / 256) = 97 by omega, show (24832 + (n : Int)) % 256 = (n : Int) % 256 by omega]
    go_enter Try.func50, Try.ntmps50
    go_wp2_with (first | go_skip | ((with_reducible show wpList _ _ _ _ _ (World.alloc _ _)); refine wpList_up hm ?_; clear hm; intro n w hn hn2 hk hm hd hd2 ho; (try rw [← hn]); replace hn := Nat.le_of_eq hn.symm) | ((first | ((with_reducible show wpList _ _ _ (Oper.mk _ (Op.box _ _) _ _ _ _ :: _) _ _); (refine wpList_bx (by rfl) _ _ rfl _ (by simp only [Act.eval, Array.getD_eq_getD_getElem?, List.getElem?_toArray, List.getElem?_cons_succ, List.getElem?_cons_zero, Option.getD_some]; first | done | exact rfl) _ (by simp only [Value.cells]; first | done | exact rfl) hm ?_; clear hm; intro n w hn hz hm ho; (try simp only [List.cons_append, List.nil_append] at hm))) | ((with_reducible show wpList _ _ _ (Oper.mk _ (Op.load _ _) _ _ _ _ :: _) _ _); first | (refine wpList_ldS (by rfl) _ _ rfl _ _ rfl hm _ _ (by repeat (first | apply In.a | apply In.b)) (by decide +kernel) _ (by simp only [List.getElem?_toArray, List.getElem?_cons_succ, List.getElem?_cons_zero]; first | done | exact rfl) ?_) | (refine wpList_laS (by rfl) _ _ rfl _ _ rfl hm _ _ (by repeat (first | apply In.a | apply In.b)) (by kernel_rfl) _ (by rfl) (by kernel_rfl) (by simp) _ (by simp only [List.toList_toArray, List.drop_succ_cons, List.drop_zero, List.size_toArray, List.length_cons, List.length_nil, Nat.reduceAdd, List.take_succ_cons, List.take_zero]; first | done | exact rfl) ?_)) | ((with_reducible show wpList _ _ _ (Oper.mk _ (Op.store _ _ _) _ _ _ _ :: _) _ _); (refine wpList_stS (by rfl) _ _ _ rfl _ _ rfl _ (by simp only [Act.eval, Array.getD_eq_getD_getElem?, List.getElem?_toArray, List.getElem?_cons_succ, List.getElem?_cons_zero, Option.getD_some]; first | done | exact rfl) hm _ (by simp only [Value.cells]; first | done | exact rfl) _ _ _ _ (by repeat (first | apply Put.a | apply Put.b)) (by kernel_rfl) (by simp [Value.oneCell']) (by simp) (by simp only [List.set_cons_zero, List.set_cons_succ, spl, List.toList_toArray, List.size_toArray, List.length_cons, List.length_nil, Nat.reduceAdd, Nat.zero_add, List.take_succ_cons, List.take_zero, List.drop_succ_cons, List.drop_zero, List.drop_nil, List.cons_append, List.nil_append, List.append_nil]; first | done | exact rfl) ?_; clear hm; intro w hz hm ho)) | ((with_reducible show wpList _ _ _ (Oper.mk _ (Op.alloc _) _ _ _ _ :: _) _ _); (refine wpList_al (by rfl) _ rfl _ rfl _ (by simp only [Value.cells]; first | done | exact rfl) hm ?_; clear hm; intro n w hn hz hm ho; (try simp only [List.cons_append, List.nil_append] at hm)))); try simp only [Act.put, List.setIfInBounds_toArray, List.set_cons_zero, List.set_cons_succ]) | (go_at_call 48; refine (ref07_word _ (by omega) _).mono ?_; rintro e w2 ⟨A2, c2, rfl, hown, hbl⟩; replace hm := hm.got hbl hown))
    go_ret
    rw [HE.out]
    exact ORes.mk hm 0 rfl rfl rfl (fun _ e => e)
theorem tz_i64 : (Try.prog.info? 3).map (fun i => (i.zero, i.size, i.bytes)) = some (some (.int .i64 0), 1, 8) := by kernel_rfl
set_option maxRecDepth 100000 in
theorem ref07_NewCard (A : Option Addr) (n c : Nat) (xs : List Int) (w0 : World) (ha : Ints w0 w0.heap.size A n c xs) (hn : n ≤ 1000) :
    Calls Try.prog 16 #[.slice A n c] w0 fun e w' => ∃ cs, e = .returned (.agg cs) ∧ RCAt w' xs Tz.S.zero cs ∧ Below w0.heap.size w0 w' := by
  have hm : Mem (fun _ => False) w0 w0 [] [] := Mem.nil _ w0
  have hl := ha.1
  subst hl
  obtain ⟨ti, hti, hz0, hz1, hz2⟩ := info_parts tz_i64
  have HI := Lib.hid ha
  clear ha
  go_enter Try.func16, Try.ntmps16
  go_wp2_with (first | go_skip | ((with_reducible show wpList _ _ _ _ _ (World.alloc _ _)); refine wpList_up hm ?_; clear hm; intro n w hn hn2 hk hm hd hd2 ho; (try rw [← hn]); replace hn := Nat.le_of_eq hn.symm) | ((first | ((with_reducible show wpList _ _ _ (Oper.mk _ (Op.box _ _) _ _ _ _ :: _) _ _); (refine wpList_bx (by rfl) _ _ rfl _ (by simp only [Act.eval, Array.getD_eq_getD_getElem?, List.getElem?_toArray, List.getElem?_cons_succ, List.getElem?_cons_zero, Option.getD_some]; first | done | exact rfl) _ (by simp only [Value.cells]; first | done | exact rfl) hm ?_; clear hm; intro n w hn hz hm ho; (try simp only [List.cons_append, List.nil_append] at hm))) | ((with_reducible show wpList _ _ _ (Oper.mk _ (Op.load _ _) _ _ _ _ :: _) _ _); first | (refine wpList_ldS (by rfl) _ _ rfl _ _ rfl hm _ _ (by repeat (first | apply In.a | apply In.b)) (by decide +kernel) _ (by simp only [List.getElem?_toArray, List.getElem?_cons_succ, List.getElem?_cons_zero]; first | done | exact rfl) ?_) | (refine wpList_laS (by rfl) _ _ rfl _ _ rfl hm _ _ (by repeat (first | apply In.a | apply In.b)) (by kernel_rfl) _ (by rfl) (by kernel_rfl) (by simp) _ (by simp only [List.toList_toArray, List.drop_succ_cons, List.drop_zero, List.size_toArray, List.length_cons, List.length_nil, Nat.reduceAdd, List.take_succ_cons, List.take_zero]; first | done | exact rfl) ?_)) | ((with_reducible show wpList _ _ _ (Oper.mk _ (Op.store _ _ _) _ _ _ _ :: _) _ _); (refine wpList_stS (by rfl) _ _ _ rfl _ _ rfl _ (by simp only [Act.eval, Array.getD_eq_getD_getElem?, List.getElem?_toArray, List.getElem?_cons_succ, List.getElem?_cons_zero, Option.getD_some]; first | done | exact rfl) hm _ (by simp only [Value.cells]; first | done | exact rfl) _ _ _ _ (by repeat (first | apply Put.a | apply Put.b)) (by kernel_rfl) (by simp [Value.oneCell']) (by simp) (by simp only [List.set_cons_zero, List.set_cons_succ, spl, List.toList_toArray, List.size_toArray, List.length_cons, List.length_nil, Nat.reduceAdd, Nat.zero_add, List.take_succ_cons, List.take_zero, List.drop_succ_cons, List.drop_zero, List.drop_nil, List.cons_append, List.nil_append, List.append_nil]; first | done | exact rfl) ?_; clear hm; intro w hz hm ho)) | ((with_reducible show wpList _ _ _ (Oper.mk _ (Op.alloc _) _ _ _ _ :: _) _ _); (refine wpList_al (by rfl) _ rfl _ rfl _ (by simp only [Value.cells]; first | done | exact rfl) hm ?_; clear hm; intro n w hn hz hm ho; (try simp only [List.cons_append, List.nil_append] at hm)))); try simp only [Act.put, List.setIfInBounds_toArray, List.set_cons_zero, List.set_cons_succ]) | ((with_reducible show wpList _ _ _ (Oper.mk _ (Op.call { callee := Callee.builtin Builtin.append, args := #[Operand.tmp 3, Operand.tmp 4], argTypes := _ }) _ _ _ _ :: _) _ _); refine wpList_ap (by rfl) (.tmp 3) (.tmp 4) 22 rfl 3 ti _ 1 8 Try.underlying22 hti hz0 hz1 hz2 rfl (by omega) _ 0 0 [] rfl (hm.row hk hn2 hd hd2 1 0 [] rfl rfl (by unfold maxLen; omega)) 0 rfl _ _ xs.length _ (xs.map I64) rfl ((HI.out.below hm.low).more hm.only.size).2.2 (by simp) (fun u hu => by obtain ⟨z, _, rfl⟩ := List.mem_map.1 hu; rfl) (by unfold maxLen; omega) (by omega) ?_; clear hm; intro A3 c3 w hm ho _; try simp only [Act.put, List.setIfInBounds_toArray, List.set_cons_zero, List.set_cons_succ]))
  refine bodyPost_ret (results_cell_row rfl _ _ _ _ _ (0, 0) _ rfl (by exact hm.at_ 0 rfl) Try.underlying39 rfl (by kernel_rfl)) rfl ?_
  have hown := hm.sl_ 0 rfl
  have hr := hown.row
  have hle := hown.le
  refine ⟨_, rfl, ⟨A3, c3, none, 0, none, 0, none, 0, ?_, ⟨rfl, by simpa using hle, hr⟩, ⟨rfl, Nat.le_refl _, Row.nil _ _ _⟩, ⟨rfl, Nat.le_refl _, Row.nil _ _ _⟩, ⟨rfl, Nat.le_refl _, Row.nil _ _ _⟩⟩, hm.low⟩
  simp [Tz.S.zero]
end Go.Proofs.Ytpacdjkikbdkeaa
