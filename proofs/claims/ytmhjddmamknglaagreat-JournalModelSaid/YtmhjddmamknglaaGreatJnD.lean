/-
  The journal: its head.
-/
import Derived.Test.YtmhjddmamknglaaGreatZ0
import Derived.Test.YtmhjddmamknglaaGreatJnC
import Derived.Test.YtmhjddmamknglaaGreatZ3
namespace Go.Proofs.YtmhjddmamknglaaGreat
set_option maxRecDepth 100000
set_option linter.unusedSimpArgs false
set_option linter.unusedVariables false
open Go.RowKit
set_option maxHeartbeats 8000000

theorem headPage_cells (x0 : Nat) : bcells (Jn.bytesOf x0 8) ++ bcells (zs 40) = bcells (Jn.headPage x0) := by
  simp [bcells, Jn.headPage, zs]
/-- The journal at block gj, on pages at g. -/
def JAt (w : World) (gj g : Nat) : Prop := Blk w gj 68 #[.pointer (some ⟨g, 0, none⟩)]
section
variable {w0 : World} {g gj B : Nat} {G : Nat → Prop} {s : PgS} {p : Pg.P} {st : List (List UInt8)} {q : Prop}
theorem jn_head (hj : JAt w0 gj g) (hd : ¬ G gj) (H : PAt w0 g G s p) (L : PL q B p st) (hB : B ≤ 900000000) (x0 : Nat) (hx : x0 < 2 ^ 63) :
    Calls Tryz.prog 52 #[.pointer (some ⟨gj, 0, none⟩), .int .i64 (x0 : Int)] w0 (JpR w0 g B G s q fun p' er => PW q (B + 1200) p' st (st.set 0 (Jn.headPage x0)) er) := by
  have hm : Mem (fun q => q = gj) w0 w0 [⟨gj, _, _⟩] [] := Mem.one hj rfl
  have HK := Lib.hid hj
  have HH := Lib.hid H
  have HL := Lib.hid L
  have HD := Lib.hid hd
  have HX := Lib.hid hx
  have HP := Lib.hid L.pos
  obtain ⟨ti, hi0, hz0, hz1, hz2⟩ := info_parts (show (Tryz.prog.info? 5).map (fun i => (i.zero, i.size, i.bytes)) = some (some (.int .u8 0), 1, 1) by kernel_rfl)
  clear hj H L hd hx
  go_enter Tryz.func52, Tryz.ntmps52
  go_wp2_with (first | go_skip | ((with_reducible show wpList _ _ _ _ _ (World.alloc _ _)); refine wpList_up hm ?_; clear hm; intro n w hn hn2 hk hm hd hd2 ho; (try rw [← hn]); replace hn := Nat.le_of_eq hn.symm) | ((first | ((with_reducible show wpList _ _ _ (Oper.mk _ (Op.box _ _) _ _ _ _ :: _) _ _); (refine bxA hm ?_; clear hm; intro n w hn hz hm ho; (try simp only [List.cons_append, List.nil_append] at hm))) | ((with_reducible show wpList _ _ _ (Oper.mk _ (Op.load _ _) _ _ _ _ :: _) _ _); first | (refine ldA hm ?_) | (refine laA hm ?_)) | ((with_reducible show wpList _ _ _ (Oper.mk _ (Op.store _ _ _) _ _ _ _ :: _) _ _); (refine stA hm ?_; clear hm; intro w hz hm ho)) | ((with_reducible show wpList _ _ _ (Oper.mk _ (Op.alloc _) _ _ _ _ :: _) _ _); (refine alA hm ?_; clear hm; intro n w hn hz hm ho; (try simp only [List.cons_append, List.nil_append] at hm)))); try simp only [Act.put, sxQ]))
  go_at_call 54
  refine (jn_bytesOf x0 8 _ HX.out (by omega) (by omega)).mono ?_
  rintro e w2 ⟨q2, rfl, ho2, hb2⟩
  replace hm := hm.got hb2 ho2
  clear hb2 ho2
  have hq2 : gj ≠ q2 := fun e => hm.slL _ (List.mem_append_right _ (List.mem_singleton.2 rfl)) _ List.mem_cons_self (by rw [e]; rfl)
  have hfr := hm.freshG 0 0 rfl rfl
  have hst9 : ∀ w3, w2.grownBy w3 (ownAt (some ⟨q2, 0, none⟩) 8) → Mem (fun q => q = gj) w0 w3 [⟨gj, 68, #[.pointer (some ⟨g, 0, none⟩)]⟩] [] := fun w3 hg3 =>
    hm.less.step (R' := fun q => q = q2) ((Only.refl (fun q => q = q2) w2).grown hg3 (fun k hk => by cases hk; rfl)) (fun q _ hq => .inr (by rw [hq]; exact (hfr.lt q2 rfl).1)) (fun e he hq => by obtain rfl := List.mem_singleton.1 he; exact hq2 hq) (fun x hx => by cases hx)
  go_wp2_with (first | ((with_reducible show wpList _ _ _ (Oper.mk _ (Op.call { callee := Callee.builtin Builtin.append, args := _, argTypes := _ }) _ _ _ _ :: _) _ _); refine wpList_appendz _ rfl (.tmp 7) (.const (.int .i64 40)) 33 3 rfl w0.heap.size 5 ti Tryz.underlying33 Tryz.underlying3 hi0 hz0 hz1 hz2 _ 8 8 _ rfl hfr (by omega) _ 40 rfl rfl (by omega) (by omega) hm.only.size ?_; intro A2 c2 w3 ho3 hg3; replace hm := hst9 _ hg3) | go_skip | ((with_reducible show wpList _ _ _ _ _ (World.alloc _ _)); refine wpList_up hm ?_; clear hm; intro n w hn hn2 hk hm hd hd2 ho; (try rw [← hn]); replace hn := Nat.le_of_eq hn.symm) | ((first | ((with_reducible show wpList _ _ _ (Oper.mk _ (Op.box _ _) _ _ _ _ :: _) _ _); (refine bxA hm ?_; clear hm; intro n w hn hz hm ho; (try simp only [List.cons_append, List.nil_append] at hm))) | ((with_reducible show wpList _ _ _ (Oper.mk _ (Op.load _ _) _ _ _ _ :: _) _ _); first | (refine ldA hm ?_) | (refine laA hm ?_)) | ((with_reducible show wpList _ _ _ (Oper.mk _ (Op.store _ _ _) _ _ _ _ :: _) _ _); (refine stA hm ?_; clear hm; intro w hz hm ho)) | ((with_reducible show wpList _ _ _ (Oper.mk _ (Op.alloc _) _ _ _ _ :: _) _ _); (refine alA hm ?_; clear hm; intro n w hn hz hm ho; (try simp only [List.cons_append, List.nil_append] at hm)))); try simp only [Act.put, sxQ]))
  go_at_call 51
  rw [headPage_cells] at ho3
  have hb := hm.still 0 rfl HK.out
  refine (jp_Write (HH.out.below hb) HL.out hB 0 (by have := HP.out; omega) A2 c2 (Jn.headPage x0) ⟨ho3.byt (Nat.le_refl _), fun a e hG => ?_⟩).mono ?_
  · have h1 := (ho3.lt a.block (ownAt_some (by have := ho3.2.1; omega) e)).1
    have h2 := HH.out.lt _ hG
    omega
  rintro e w4 ⟨p', G', s', er, rfl, h1, h2, h3, h4, h5⟩
  go_wp2_with (first | go_skip | ((with_reducible show wpList _ _ _ _ _ (World.alloc _ _)); refine wpList_up hm ?_; clear hm; intro n w hn hn2 hk hm hd hd2 ho; (try rw [← hn]); replace hn := Nat.le_of_eq hn.symm) | ((first | ((with_reducible show wpList _ _ _ (Oper.mk _ (Op.box _ _) _ _ _ _ :: _) _ _); (refine bxA hm ?_; clear hm; intro n w hn hz hm ho; (try simp only [List.cons_append, List.nil_append] at hm))) | ((with_reducible show wpList _ _ _ (Oper.mk _ (Op.load _ _) _ _ _ _ :: _) _ _); first | (refine ldA hm ?_) | (refine laA hm ?_)) | ((with_reducible show wpList _ _ _ (Oper.mk _ (Op.store _ _ _) _ _ _ _ :: _) _ _); (refine stA hm ?_; clear hm; intro w hz hm ho)) | ((with_reducible show wpList _ _ _ (Oper.mk _ (Op.alloc _) _ _ _ _ :: _) _ _); (refine alA hm ?_; clear hm; intro n w hn hz hm ho; (try simp only [List.cons_append, List.nil_append] at hm)))); try simp only [Act.put, sxQ]))
  go_ret
  exact ⟨p', G', s', er, rfl, h1, h2, fun q hq => (h3 q hq).imp id (fun h => Nat.le_trans hb.size h), (Only.of_below hb).trans h4, h5⟩
end
end Go.Proofs.YtmhjddmamknglaaGreat
