/-
  The journal: changed, and the deferred closure of make.
-/
import Derived.Test.YtmhjddmamknglaaGreatZ0
import Derived.Test.YtmhjddmamknglaaGreatJnN
import Derived.Test.YtmhjddmamknglaaGreatZ4
import Derived.Test.YtmhjddmamknglaaGreatZ2
namespace Go.Proofs.YtmhjddmamknglaaGreat
set_option maxRecDepth 100000
set_option linter.unusedSimpArgs false
set_option linter.unusedVariables false
open Go.RowKit
set_option maxHeartbeats 8000000

/-- The boxes that the iterator of changed has. -/
structure ChB (w : World) (B gj : Nat) (A : Option Addr) (n c pe b3 b4 b5 : Nat) : Prop where
  jj : Blk w b3 28 #[.pointer (some ⟨gj, 0, none⟩)]
  ll : Blk w b4 22 #[.slice A n c]
  ee : Blk w b5 95 #[.pointer (some ⟨pe, 0, none⟩)]
  lo : B ≤ b3 ∧ B ≤ b4 ∧ B ≤ b5
  ne : b3 ≠ b4 ∧ b3 ≠ b5 ∧ b4 ≠ b5
theorem jn_changed (w0 : World) (gj pe : Nat) (A : Option Addr) (n c : Nat) : Calls Tryz.prog 56 #[.pointer (some ⟨gj, 0, none⟩), .slice A n c, .pointer (some ⟨pe, 0, none⟩)] w0 fun e w' =>
    ∃ b3 b4 b5, e = .returned (.func (.func 70) #[] #[.pointer (some ⟨b4, 0, none⟩), .pointer (some ⟨b3, 0, none⟩), .pointer (some ⟨b5, 0, none⟩)]) ∧ ChB w' w0.heap.size gj A n c pe b3 b4 b5 ∧ Below w0.heap.size w0 w' := by
  have hmf : ∀ (fn : Fn) (a b : Array Value) (u : World), (Instr.makeFunc fn a b).run Tryz.prog u = .ok (.func fn a b) u := make_func
  have hm := Mem.nil (fun _ => False) w0
  go_enter Tryz.func56, Tryz.ntmps56
  go_wp2_with (first | go_skip | ((with_reducible show wpList _ _ _ _ _ (World.alloc _ _)); refine wpList_up hm ?_; clear hm; intro n w hn hn2 hk hm hd hd2 ho; (try rw [← hn]); replace hn := Nat.le_of_eq hn.symm) | ((first | ((with_reducible show wpList _ _ _ (Oper.mk _ (Op.box _ _) _ _ _ _ :: _) _ _); (refine bxA hm ?_; clear hm; intro n w hn hz hm ho; (try simp only [List.cons_append, List.nil_append] at hm))) | ((with_reducible show wpList _ _ _ (Oper.mk _ (Op.load _ _) _ _ _ _ :: _) _ _); first | (refine ldA hm ?_) | (refine laA hm ?_)) | ((with_reducible show wpList _ _ _ (Oper.mk _ (Op.store _ _ _) _ _ _ _ :: _) _ _); (refine stA hm ?_; clear hm; intro w hz hm ho)) | ((with_reducible show wpList _ _ _ (Oper.mk _ (Op.alloc _) _ _ _ _ :: _) _ _); (refine alA hm ?_; clear hm; intro n w hn hz hm ho; (try simp only [List.cons_append, List.nil_append] at hm)))); try simp only [Act.put, sxQ]))
  go_ret
  have hlo := fun (k : Nat) (e : Ent) hk => (hm.own e (List.mem_of_getElem? (i := k) hk)).resolve_left id
  exact ⟨_, _, _, rfl, ⟨hm.at_ 0 rfl, hm.at_ 1 rfl, hm.at_ 2 rfl, ⟨hlo 0 _ rfl, hlo 1 _ rfl, hlo 2 _ rfl⟩, ⟨hm.apart 0 1 (by decide) rfl rfl, hm.apart 0 2 (by decide) rfl rfl, hm.apart 1 2 (by decide) rfl rfl⟩⟩, hm.low⟩
section
variable {w0 : World} {u : FrameMode} {g gj B ce bj : Nat} {G : Nat → Prop} {s : PgS} {p : Pg.P} {st : List (List UInt8)} {q : Prop}
/-- The deferred closure of make, where something went wrong. -/
theorem jn_make1_bad {er : Int} (he : Blk w0 ce 38 #[.int .i64 er]) (hr : ¬ er = 0) : CallsDIn (Wd none) 0 Tryz.prog 55 #[.pointer (some ⟨ce, 0, none⟩), .pointer (some ⟨bj, 0, none⟩)] u w0 fun e u' w' => u' = u ∧ (e = .returned (.tuple #[]) ∧ Below w0.heap.size w0 w') := by
  have hm : Mem (fun q => q = ce) w0 w0 [⟨ce, _, _⟩] [] := Mem.one he rfl
  have hw := Mem.nil (fun _ => False) w0
  clear he
  refine callsDIn_of_wp Tryz.func55 rfl trivial ((wpIn_wide (n := 0)).2 ?_) rfl
  simp only [Tryz.ntmps55, List.size_toArray, List.length_cons, List.length_nil, Nat.reduceAdd, Nat.reduceSub, Array.replicate_succ, Array.replicate_zero, List.push_toArray, List.append_toArray, List.nil_append, List.cons_append]
  go_wp2_with (first | go_skip | ((with_reducible show wpList _ _ _ _ _ (World.alloc _ _)); refine wpList_up hm ?_; clear hm; intro n w hn hn2 hk hm hd hd2 ho; (try rw [← hn]); replace hn := Nat.le_of_eq hn.symm) | ((first | ((with_reducible show wpList _ _ _ (Oper.mk _ (Op.box _ _) _ _ _ _ :: _) _ _); (refine bxA hm ?_; clear hm; intro n w hn hz hm ho; (try simp only [List.cons_append, List.nil_append] at hm))) | ((with_reducible show wpList _ _ _ (Oper.mk _ (Op.load _ _) _ _ _ _ :: _) _ _); first | (refine ldA hm ?_) | (refine laA hm ?_)) | ((with_reducible show wpList _ _ _ (Oper.mk _ (Op.store _ _ _) _ _ _ _ :: _) _ _); (refine stA hm ?_; clear hm; intro w hz hm ho)) | ((with_reducible show wpList _ _ _ (Oper.mk _ (Op.alloc _) _ _ _ _ :: _) _ _); (refine alA hm ?_; clear hm; intro n w hn hz hm ho; (try simp only [List.cons_append, List.nil_append] at hm)))); try simp only [Act.put, sxQ]))
  go_end0
  exact ⟨rfl, hw.low⟩
/-- .. and where nothing did: it is over. -/
theorem jn_make1_ok (he : Blk w0 ce 38 #[.int .i64 0]) (hbj : Blk w0 bj 28 #[.pointer (some ⟨gj, 0, none⟩)]) (hne : ce ≠ bj) (hce : ¬ G ce) (hgb : ¬ G bj) (hj : JAt w0 gj g) (hd : ¬ G gj) (H : PAt w0 g G s p) (L : PL q B p st) (hB : B ≤ 900000000) :
    CallsDIn (Wd none) 0 Tryz.prog 55 #[.pointer (some ⟨ce, 0, none⟩), .pointer (some ⟨bj, 0, none⟩)] u w0 fun e u' w' => u' = u ∧ ∃ p' G' s' er, e = .returned (.tuple #[]) ∧ Blk w' ce 38 #[.int .i64 er] ∧ PAt w' g G' s' p' ∧ PW q (B + 1200) p' st (st.set 0 (Jn.headPage 0)) er ∧ (∀ q, G' q → G q ∨ w0.heap.size ≤ q) ∧ Only (fun q => G q ∨ q = ce) w0 w' ∧ s'.gm = s.gm := by
  have hm : Mem (fun x => G x ∨ x = ce ∨ x = bj) w0 w0 [⟨ce, _, _⟩, ⟨bj, _, _⟩] [] := Mem.cons (Mem.one hbj (.inr (.inr rfl))) he (.inl (.inr (.inl rfl))) (fun e h => by obtain rfl := List.mem_singleton.1 h; exact hne) (fun e h => by cases h)
  have HJ := Lib.hid hj
  have HH := Lib.hid H
  have HL := Lib.hid L
  have HD := Lib.hid hd
  have HCE := Lib.hid hce
  have HGB := Lib.hid hgb
  have HN := Lib.hid hne
  have HLT := Lib.hid he.lt
  clear he hbj hne hce hgb hj hd H L
  refine callsDIn_of_wp Tryz.func55 rfl trivial ((wpIn_wide (n := 0)).2 ?_) rfl
  simp only [Tryz.ntmps55, List.size_toArray, List.length_cons, List.length_nil, Nat.reduceAdd, Nat.reduceSub, Array.replicate_succ, Array.replicate_zero, List.push_toArray, List.append_toArray, List.nil_append, List.cons_append]
  go_wp2_with (first | go_skip | ((with_reducible show wpList _ _ _ _ _ (World.alloc _ _)); refine wpList_up hm ?_; clear hm; intro n w hn hn2 hk hm hd hd2 ho; (try rw [← hn]); replace hn := Nat.le_of_eq hn.symm) | ((first | ((with_reducible show wpList _ _ _ (Oper.mk _ (Op.box _ _) _ _ _ _ :: _) _ _); (refine bxA hm ?_; clear hm; intro n w hn hz hm ho; (try simp only [List.cons_append, List.nil_append] at hm))) | ((with_reducible show wpList _ _ _ (Oper.mk _ (Op.load _ _) _ _ _ _ :: _) _ _); first | (refine ldA hm ?_) | (refine laA hm ?_)) | ((with_reducible show wpList _ _ _ (Oper.mk _ (Op.store _ _ _) _ _ _ _ :: _) _ _); (refine stA hm ?_; clear hm; intro w hz hm ho)) | ((with_reducible show wpList _ _ _ (Oper.mk _ (Op.alloc _) _ _ _ _ :: _) _ _); (refine alA hm ?_; clear hm; intro n w hn hz hm ho; (try simp only [List.cons_append, List.nil_append] at hm)))); try simp only [Act.put, sxQ]))
  go_at_call 52
  refine (jn_head HJ.out HD.out HH.out HL.out hB 0 (by decide)).mono ?_
  rintro e w4 ⟨p', G', s', er, rfl, h1, h2, h3, h4, h5⟩
  replace hm := hm.step h4 (fun q _ hq => .inl (.inl hq)) (fun e he hq => by
    rcases List.mem_cons.1 he with rfl | he
    · exact HCE.out hq
    · obtain rfl := List.mem_singleton.1 he; exact HGB.out hq) (fun x hx => by cases hx)
  go_wp2_with (first | go_skip | ((with_reducible show wpList _ _ _ _ _ (World.alloc _ _)); refine wpList_up hm ?_; clear hm; intro n w hn hn2 hk hm hd hd2 ho; (try rw [← hn]); replace hn := Nat.le_of_eq hn.symm) | ((first | ((with_reducible show wpList _ _ _ (Oper.mk _ (Op.box _ _) _ _ _ _ :: _) _ _); (refine bxA hm ?_; clear hm; intro n w hn hz hm ho; (try simp only [List.cons_append, List.nil_append] at hm))) | ((with_reducible show wpList _ _ _ (Oper.mk _ (Op.load _ _) _ _ _ _ :: _) _ _); first | (refine ldA hm ?_) | (refine laA hm ?_)) | ((with_reducible show wpList _ _ _ (Oper.mk _ (Op.store _ _ _) _ _ _ _ :: _) _ _); (refine stA hm ?_; clear hm; intro w hz hm ho)) | ((with_reducible show wpList _ _ _ (Oper.mk _ (Op.alloc _) _ _ _ _ :: _) _ _); (refine alA hm ?_; clear hm; intro n w hn hz hm ho; (try simp only [List.cons_append, List.nil_append] at hm)))); try simp only [Act.put, sxQ]))
  go_end0
  have hcG : ¬ G' ce := fun e => (h3 ce e).elim HCE.out (fun e2 => Nat.lt_irrefl _ (Nat.lt_of_lt_of_le HLT.out e2))
  exact ⟨p', G', s', er, rfl, hm.at_ 0 rfl, (h1.sup.only ho (fun q hq e => hcG (e ▸ hq))).now, h2, h3, (h4.mono fun q _ e => .inl e).trans (ho.mono fun q _ e => .inr e), h5⟩
end
end Go.Proofs.YtmhjddmamknglaaGreat
