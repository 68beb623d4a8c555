/-
  The journal: a size that needs the pages' own block alone; a space is let go but for its memory.
-/
import Derived.Test.YtmhjddmamknglaaGreatZ0
import Derived.Test.YtmhjddmamknglaaGreatJpC
namespace Go.Proofs.YtmhjddmamknglaaGreat
set_option maxRecDepth 100000
set_option linter.unusedSimpArgs false
set_option linter.unusedVariables false
open Go.RowKit
set_option maxHeartbeats 8000000

section
variable {w : World} {g gj : Nat} {s : PgS} {p : Pg.P}
theorem page_madeB (hb : Blk w g 66 (pcs s p)) : Calls Tryz.prog 25 #[.pointer (some ⟨g, 0, none⟩)] w fun e w' => e = .returned (.bool true) ∧ Below w.heap.size w w' := by
  have HK := Lib.hid hb
  have hm : Mem (fun q => q = g) w w [⟨g, _, _⟩] [] := Mem.one hb rfl
  clear hb
  simp only [pcs] at hm HK
  go_enter Tryz.func25, Tryz.ntmps25
  go_wp2_with (first | go_skip | ((with_reducible show wpList _ _ _ _ _ (World.alloc _ _)); refine wpList_up hm ?_; clear hm; intro n w hn hn2 hk hm hd hd2 ho; (try rw [← hn]); replace hn := Nat.le_of_eq hn.symm) | ((first | ((with_reducible show wpList _ _ _ (Oper.mk _ (Op.box _ _) _ _ _ _ :: _) _ _); (refine bxA hm ?_; clear hm; intro n w hn hz hm ho; (try simp only [List.cons_append, List.nil_append] at hm))) | ((with_reducible show wpList _ _ _ (Oper.mk _ (Op.load _ _) _ _ _ _ :: _) _ _); first | (refine ldA hm ?_) | (refine laA hm ?_)) | ((with_reducible show wpList _ _ _ (Oper.mk _ (Op.store _ _ _) _ _ _ _ :: _) _ _); (refine stA hm ?_; clear hm; intro w hz hm ho)) | ((with_reducible show wpList _ _ _ (Oper.mk _ (Op.alloc _) _ _ _ _ :: _) _ _); (refine alA hm ?_; clear hm; intro n w hn hz hm ho; (try simp only [List.cons_append, List.nil_append] at hm)))); try simp only [Act.put, sxQ]))
  go_ret
  exact ⟨rfl, hm.still 0 rfl HK.out⟩
theorem page_CountB (hb : Blk w g 66 (pcs s p)) : Calls Tryz.prog 8 #[.pointer (some ⟨g, 0, none⟩)] w fun e w' => e = .returned (.int .i64 (p.count : Int)) ∧ Below w.heap.size w w' := by
  have HK := Lib.hid hb
  have HM := Lib.hid (fun (u : World) (h : Blk u g 66 (pcs s p)) => page_madeB h)
  have hm : Mem (fun q => q = g) w w [⟨g, _, _⟩] [] := Mem.one hb rfl
  clear hb
  simp only [pcs] at hm HK
  go_enter Tryz.func8, Tryz.ntmps8
  go_wp2_with (first | go_skip | ((with_reducible show wpList _ _ _ _ _ (World.alloc _ _)); refine wpList_up hm ?_; clear hm; intro n w hn hn2 hk hm hd hd2 ho; (try rw [← hn]); replace hn := Nat.le_of_eq hn.symm) | ((first | ((with_reducible show wpList _ _ _ (Oper.mk _ (Op.box _ _) _ _ _ _ :: _) _ _); (refine bxA hm ?_; clear hm; intro n w hn hz hm ho; (try simp only [List.cons_append, List.nil_append] at hm))) | ((with_reducible show wpList _ _ _ (Oper.mk _ (Op.load _ _) _ _ _ _ :: _) _ _); first | (refine ldA hm ?_) | (refine laA hm ?_)) | ((with_reducible show wpList _ _ _ (Oper.mk _ (Op.store _ _ _) _ _ _ _ :: _) _ _); (refine stA hm ?_; clear hm; intro w hz hm ho)) | ((with_reducible show wpList _ _ _ (Oper.mk _ (Op.alloc _) _ _ _ _ :: _) _ _); (refine alA hm ?_; clear hm; intro n w hn hz hm ho; (try simp only [List.cons_append, List.nil_append] at hm)))); try simp only [Act.put, sxQ]))
  go_at_call 25
  refine (HM.out _ (hm.at_ 0 rfl)).mono ?_
  rintro e w2 ⟨rfl, hb2⟩
  replace hm := hm.below hb2
  go_wp2_with (first | go_skip | ((with_reducible show wpList _ _ _ _ _ (World.alloc _ _)); refine wpList_up hm ?_; clear hm; intro n w hn hn2 hk hm hd hd2 ho; (try rw [← hn]); replace hn := Nat.le_of_eq hn.symm) | ((first | ((with_reducible show wpList _ _ _ (Oper.mk _ (Op.box _ _) _ _ _ _ :: _) _ _); (refine bxA hm ?_; clear hm; intro n w hn hz hm ho; (try simp only [List.cons_append, List.nil_append] at hm))) | ((with_reducible show wpList _ _ _ (Oper.mk _ (Op.load _ _) _ _ _ _ :: _) _ _); first | (refine ldA hm ?_) | (refine laA hm ?_)) | ((with_reducible show wpList _ _ _ (Oper.mk _ (Op.store _ _ _) _ _ _ _ :: _) _ _); (refine stA hm ?_; clear hm; intro w hz hm ho)) | ((with_reducible show wpList _ _ _ (Oper.mk _ (Op.alloc _) _ _ _ _ :: _) _ _); (refine alA hm ?_; clear hm; intro n w hn hz hm ho; (try simp only [List.cons_append, List.nil_append] at hm)))); try simp only [Act.put, sxQ]))
  go_ret
  exact ⟨rfl, hm.still 0 rfl HK.out⟩
theorem jn_SizeB (hj : JAt w gj g) (hb : Blk w g 66 (pcs s p)) (h32 : 32 ≤ p.count ∧ p.count ≤ 2730) : Calls Tryz.prog 47 #[.pointer (some ⟨gj, 0, none⟩)] w fun e w' => e = .returned (.int .i64 (48 * ((p.count - 32 : Nat) : Int))) ∧ Below w.heap.size w w' := by
  have hm : Mem (fun q => q = gj) w w [⟨gj, _, _⟩] [] := Mem.one hj rfl
  have HK := Lib.hid hj
  have HB := Lib.hid hb
  have u1 : IntKind.i64.wrap ((p.count : Int) - 32) = (p.count : Int) - 32 := IntWalk.i64_in _ (by omega)
  have u2 : max 0 ((p.count : Int) - 32) = ((p.count - 32 : Nat) : Int) := by omega
  have u3 : IntKind.i64.wrap (((p.count - 32 : Nat) : Int) * 48) = 48 * ((p.count - 32 : Nat) : Int) := by rw [IntWalk.i64_in _ (by omega)]; omega
  clear hj hb h32
  go_enter Tryz.func47, Tryz.ntmps47
  go_wp2_with (first | go_skip | ((with_reducible show wpList _ _ _ _ _ (World.alloc _ _)); refine wpList_up hm ?_; clear hm; intro n w hn hn2 hk hm hd hd2 ho; (try rw [← hn]); replace hn := Nat.le_of_eq hn.symm) | ((first | ((with_reducible show wpList _ _ _ (Oper.mk _ (Op.box _ _) _ _ _ _ :: _) _ _); (refine bxA hm ?_; clear hm; intro n w hn hz hm ho; (try simp only [List.cons_append, List.nil_append] at hm))) | ((with_reducible show wpList _ _ _ (Oper.mk _ (Op.load _ _) _ _ _ _ :: _) _ _); first | (refine ldA hm ?_) | (refine laA hm ?_)) | ((with_reducible show wpList _ _ _ (Oper.mk _ (Op.store _ _ _) _ _ _ _ :: _) _ _); (refine stA hm ?_; clear hm; intro w hz hm ho)) | ((with_reducible show wpList _ _ _ (Oper.mk _ (Op.alloc _) _ _ _ _ :: _) _ _); (refine alA hm ?_; clear hm; intro n w hn hz hm ho; (try simp only [List.cons_append, List.nil_append] at hm)))); try simp only [Act.put, sxQ]))
  go_at_call 26
  refine (jn_made (hm.at_ 0 rfl)).mono ?_
  rintro e w2 ⟨rfl, hb2⟩
  replace hm := hm.below hb2
  clear hb2
  go_wp2_with (first | go_skip | ((with_reducible show wpList _ _ _ _ _ (World.alloc _ _)); refine wpList_up hm ?_; clear hm; intro n w hn hn2 hk hm hd hd2 ho; (try rw [← hn]); replace hn := Nat.le_of_eq hn.symm) | ((first | ((with_reducible show wpList _ _ _ (Oper.mk _ (Op.box _ _) _ _ _ _ :: _) _ _); (refine bxA hm ?_; clear hm; intro n w hn hz hm ho; (try simp only [List.cons_append, List.nil_append] at hm))) | ((with_reducible show wpList _ _ _ (Oper.mk _ (Op.load _ _) _ _ _ _ :: _) _ _); first | (refine ldA hm ?_) | (refine laA hm ?_)) | ((with_reducible show wpList _ _ _ (Oper.mk _ (Op.store _ _ _) _ _ _ _ :: _) _ _); (refine stA hm ?_; clear hm; intro w hz hm ho)) | ((with_reducible show wpList _ _ _ (Oper.mk _ (Op.alloc _) _ _ _ _ :: _) _ _); (refine alA hm ?_; clear hm; intro n w hn hz hm ho; (try simp only [List.cons_append, List.nil_append] at hm)))); try simp only [Act.put, sxQ]))
  go_at_call 8
  refine (page_CountB (HB.out.only (R := fun _ => False) (Only.of_below (hm.still 0 rfl HK.out)) (fun e => e))).mono ?_
  rintro e w3 ⟨rfl, hb3⟩
  replace hm := hm.below hb3
  clear hb3
  go_wp2_with (first | go_skip | ((with_reducible show wpList _ _ _ _ _ (World.alloc _ _)); refine wpList_up hm ?_; clear hm; intro n w hn hn2 hk hm hd hd2 ho; (try rw [← hn]); replace hn := Nat.le_of_eq hn.symm) | ((first | ((with_reducible show wpList _ _ _ (Oper.mk _ (Op.box _ _) _ _ _ _ :: _) _ _); (refine bxA hm ?_; clear hm; intro n w hn hz hm ho; (try simp only [List.cons_append, List.nil_append] at hm))) | ((with_reducible show wpList _ _ _ (Oper.mk _ (Op.load _ _) _ _ _ _ :: _) _ _); first | (refine ldA hm ?_) | (refine laA hm ?_)) | ((with_reducible show wpList _ _ _ (Oper.mk _ (Op.store _ _ _) _ _ _ _ :: _) _ _); (refine stA hm ?_; clear hm; intro w hz hm ho)) | ((with_reducible show wpList _ _ _ (Oper.mk _ (Op.alloc _) _ _ _ _ :: _) _ _); (refine alA hm ?_; clear hm; intro n w hn hz hm ho; (try simp only [List.cons_append, List.nil_append] at hm)))); try simp only [Act.put, sxQ]))
  go_ret
  exact ⟨rfl, hm.still 0 rfl HK.out⟩
end
section
variable {w0 w w' : World} {L : List Ent} {O : List Osl} {Fs Vs : List Thing} {G G' V : Nat → Prop} {p p' pv : World → Prop}
/-- An object is let go but for a part of it; another part stays as a value. -/
theorem Scn.shed (h : Scn w0 w L O Fs Vs) (i : Nat) (hi : Fs[i]? = some ⟨G, p⟩) (hG : ∀ q, G' q → G q) (hs : Sup w G' p') (hV : ∀ q, V q → G q) (hv : Sup w V pv) (hd : ∀ q, G' q → ¬ V q) : Scn w0 w L O (Fs.set i ⟨G', p'⟩) (Vs ++ [⟨V, pv⟩]) := by
  have hmem := List.mem_of_getElem? hi
  have h2 := h.turn i hi (Only.refl G w) (fun q hq => .inl (hG q hq)) hs
  refine ⟨h2.cal, h2.fs, fun x hx => ?_⟩
  rcases List.mem_append.1 hx with hx | hx
  · exact h2.vs x hx
  · obtain rfl := List.mem_singleton.1 hx
    refine ⟨hv, fun y hy q hq hq2 => ?_, fun e he hq => h.cal.dl G (List.mem_map.2 ⟨_, hmem, rfl⟩) e he (hV _ hq)⟩
    obtain ⟨j, hj⟩ := List.getElem?_of_mem hy
    rw [List.getElem?_set] at hj
    split at hj
    · split at hj
      · cases hj; exact hd q hq hq2
      · cases hj
    · rename_i hij
      exact h.cal.other i j hij (by rw [List.getElem?_map, hi]; rfl) (by rw [List.getElem?_map, hj]; rfl) q (hV q hq2) hq
end
end Go.Proofs.YtmhjddmamknglaaGreat
