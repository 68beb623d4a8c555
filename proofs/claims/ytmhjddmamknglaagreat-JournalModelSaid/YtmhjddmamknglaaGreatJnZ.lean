/-
  The journal: Apply.
-/
import Derived.Test.YtmhjddmamknglaaGreatZ0
import Derived.Test.YtmhjddmamknglaaGreatJnY
namespace Go.Proofs.YtmhjddmamknglaaGreat
set_option maxRecDepth 100000
set_option linter.unusedSimpArgs false
set_option linter.unusedVariables false
open Go.RowKit
set_option maxHeartbeats 8000000

/-- A space, be there too few pages for it or not. -/
def Jn.Good (st : Jn.St) (S : List UInt8) : Prop := (st.length ≤ 32 ∧ S = []) ∨ Jn.Clean st S
def Jn.Meant (st : Jn.St) (S : List UInt8) : Prop := (st.length ≤ 32 ∧ S = []) ∨ Jn.Means st S
def JC.allIn (n : Nat) (l : List JC) : Bool := !(l.any fun y => !y.inB n)
/-- What Apply has done. -/
def AplR (q : Prop) (B B' : Nat) (st : List (List UInt8)) (S : List UInt8) (l : List JC) (p' : Pg.P) (er : Int) : Prop :=
  (JC.allIn (48 * (st.length - 32)) l = false ∧ er = 2 ∧ PL q B p' st) ∨ (JC.allIn (48 * (st.length - 32)) l = true ∧ 1024 < JC.weight l ∧ er = 11 ∧ PL q B p' st) ∨
  (JC.allIn (48 * (st.length - 32)) l = true ∧ JC.weight l ≤ 1024 ∧ ((er = 0 ∧ ∃ st', PL q B' p' st' ∧ Jn.Good st' (Jn.appB (Jn.pairs (JC.plains l)) S) ∧ st'.length = st.length) ∨ (er = 7 ∧ ∃ st', PD q B' p' st' ∧ (Jn.Meant st' S ∨ Jn.Meant st' (Jn.appB (Jn.pairs (JC.plains l)) S)) ∧ st'.length = st.length)))
theorem pairs_empty {l : List JC} (h : ∀ y ∈ l, y.bs = []) : Jn.pairs (JC.plains l) = [] := by
  unfold Jn.pairs JC.plains
  rw [List.flatMap_eq_nil_iff]
  intro x hx
  obtain ⟨y, hy, rfl⟩ := List.mem_map.1 hx
  simp [Jn.C.pairs, JC.plain, h y hy]
theorem apl_facts {l : List JC} {st : List (List UInt8)} {S : List UInt8} (hl : ∀ y ∈ l, y.bs.length = y.n) (h1 : JC.allIn (48 * (st.length - 32)) l = true) (h2 : (l.any fun y => decide (0 < y.n)) = true) (hS : Jn.Good st S) (hst : st.length ≤ 2730) :
    (∀ y ∈ l, 0 ≤ y.off ∧ y.off + (y.n : Int) ≤ ((48 * (st.length - 32) : Nat) : Int)) ∧ (∀ y ∈ l, 0 ≤ y.off ∧ y.off < 1000000) ∧ Jn.Within (48 * (st.length - 32)) (JC.plains l) ∧ 0 < (Jn.enc (JC.plains l)).length ∧ (Jn.enc (JC.plains l)).length = JC.weight l ∧ Jn.Clean st S := by
  have hall : ∀ y ∈ l, 0 ≤ y.off ∧ y.off + (y.n : Int) ≤ ((48 * (st.length - 32) : Nat) : Int) := fun y hy => by
    unfold JC.allIn at h1
    rw [Bool.not_eq_true', List.any_eq_false] at h1
    have h3 := h1 y hy
    unfold JC.inB at h3
    simp only [Bool.not_eq_true', decide_eq_false_iff_not, Classical.not_not] at h3
    exact h3
  obtain ⟨y, hy, hyn⟩ := List.any_eq_true.1 h2
  have hyn := of_decide_eq_true hyn
  refine ⟨hall, fun z hz => ?_, fun c hc => ?_, ?_, JC.enc_length l hl, ?_⟩
  · have := hall z hz; omega
  · obtain ⟨z, hz, rfl⟩ := List.mem_map.1 hc
    have h3 := hall z hz
    have h4 := hl z hz
    show z.off.toNat + z.bs.length ≤ _
    omega
  · have := Jn.enc_mem (l := JC.plains l) (List.mem_map.2 ⟨y, hy, rfl⟩); omega
  · rcases hS with ⟨h3, _⟩ | h3
    · have := hall y hy; omega
    · exact h3
section
variable {w0 : World} {g gj B : Nat} {G : Nat → Prop} {s : PgS} {p : Pg.P} {st : List (List UInt8)} {q : Prop}
theorem Mth.jnc {A : Option Addr} {m c : Nat} {l : List JC} (hj : JAt w0 gj g) (hd : ¬ G gj) (H : PAt w0 g G s p) (hc : Chs w0 w0.heap.size A m c l) (hcd : ∀ q, chsG A m l q → ¬ G q) : Mth G w0 w0 [] [] [⟨G, fun u => PAt u g G s p⟩] [⟨fun q => q = gj, fun u => JAt u gj g⟩, ⟨chsG A m l, fun u => Chs u u.heap.size A m c l⟩] :=
  Mth.enter w0 G _ _ (fun x hx => by obtain rfl := List.mem_singleton.1 hx; exact H.sup) (List.pairwise_singleton _ _) (fun x hx q hq => by obtain rfl := List.mem_singleton.1 hx; exact hq)
    (fun x hx => by
      rcases List.mem_cons.1 hx with rfl | hx
      · exact ⟨hj.sup, fun y hy q hq e => by obtain rfl := List.mem_singleton.1 hy; exact hd (e ▸ hq)⟩
      · obtain rfl := List.mem_singleton.1 hx
        exact ⟨Chs.sup hc, fun y hy q hq hq2 => by obtain rfl := List.mem_singleton.1 hy; exact hcd q hq2 hq⟩)
theorem jn_Apply (hj : JAt w0 gj g) (hd : ¬ G gj) (H : PAt w0 g G s p) (L : PL q B p st) (hB : B ≤ 700000000) (S : List UInt8) (hS : Jn.Good st S) (A : Option Addr) (m c : Nat) (l : List JC) (hc : Chs w0 w0.heap.size A m c l) (hcd : ∀ q, chsG A m l q → ¬ G q)
    (hyo : ∀ y ∈ l, (-9223372036854775808 ≤ y.off ∧ y.off ≤ 9223372036854775807) ∧ y.n ≤ 9223372036854775807) (hw : JC.weight l ≤ 1000000000000) (hm47 : m ≤ 9223372036854775807) :
    Calls Tryz.prog 9 #[.pointer (some ⟨gj, 0, none⟩), .slice A m c] w0 (JpR w0 g B G s q (AplR q B (B + 10000000) st S l)) := by
  have HC := Lib.hid (Mth.jnc hj hd H hc hcd)
  have RKJ := Lib.hid (JAt.rng hj hd)
  have hm := HC.out.rebase
  have HL := Lib.hid L
  have HD := Lib.hid hd
  have HS := Lib.hid hS
  have HCD := Lib.hid hcd
  have HYO := Lib.hid hyo
  have HW := Lib.hid hw
  have HM := Lib.hid hm47
  have HPS := Lib.hid L.pos.2
  have HGJ := Lib.hid (show gj < w0.heap.size from Blk.lt hj)
  have HG0 := Lib.hid (show ∀ q, G q → q < w0.heap.size from H.lt)
  have hmf : ∀ (fn : Fn) (a b : Array Value) (u : World), (Instr.makeFunc fn a b).run Tryz.prog u = .ok (.func fn a b) u := make_func
  clear hj hd H L hS hc hcd hyo hw hm47
  go_enter Tryz.func9, Tryz.ntmps9
  go_wp2_with (first | go_skip | ((with_reducible show wpList _ _ _ _ _ (World.alloc _ _)); refine wpList_up hm ?_; clear hm; intro n w hn hn2 hk hm hd hd2 ho; (try rw [← hn]); replace hn := Nat.le_of_eq hn.symm) | ((first | ((with_reducible show wpList _ _ _ (Oper.mk _ (Op.box _ _) _ _ _ _ :: _) _ _); (refine bxA hm ?_; clear hm; intro n w hn hz hm ho; (try simp only [List.cons_append, List.nil_append] at hm))) | ((with_reducible show wpList _ _ _ (Oper.mk _ (Op.load _ _) _ _ _ _ :: _) _ _); first | (refine ldA hm ?_) | (refine laA hm ?_)) | ((with_reducible show wpList _ _ _ (Oper.mk _ (Op.store _ _ _) _ _ _ _ :: _) _ _); (refine stA hm ?_; clear hm; intro w hz hm ho)) | ((with_reducible show wpList _ _ _ (Oper.mk _ (Op.alloc _) _ _ _ _ :: _) _ _); (refine alA hm ?_; clear hm; intro n w hn hz hm ho; (try simp only [List.cons_append, List.nil_append] at hm)))); try simp only [Act.put, sxQ]))
  obtain ⟨nb, h9⟩ := hm.nm 0 rfl
  dsimp only at h9
  subst h9
  go_at_call 26
  refine (jn_made ((HC.out.resync hm).val 0 rfl)).mono ?_
  rintro e w2 ⟨rfl, hb2⟩
  have hc2 := (HC.out.resync hm).below hb2
  clear hb2
  clear HC hm
  simp only [List.nil_append, List.cons_append, List.set_cons_zero, List.set_cons_succ] at hc2
  have HC := Lib.hid hc2
  clear hc2
  have hm := HC.out.rebase
  go_wp2_with (first | go_skip | ((with_reducible show wpList _ _ _ _ _ (World.alloc _ _)); refine wpList_up hm ?_; clear hm; intro n w hn hn2 hk hm hd hd2 ho; (try rw [← hn]); replace hn := Nat.le_of_eq hn.symm) | ((first | ((with_reducible show wpList _ _ _ (Oper.mk _ (Op.box _ _) _ _ _ _ :: _) _ _); (refine bxA hm ?_; clear hm; intro n w hn hz hm ho; (try simp only [List.cons_append, List.nil_append] at hm))) | ((with_reducible show wpList _ _ _ (Oper.mk _ (Op.load _ _) _ _ _ _ :: _) _ _); first | (refine ldA hm ?_) | (refine laA hm ?_) | (refine lcA (RKJ.out _ (HC.out.resync hm).low) ?_) | (refine lrA (RKJ.out _ (HC.out.resync hm).low) ?_)) | ((with_reducible show wpList _ _ _ (Oper.mk _ (Op.store _ _ _) _ _ _ _ :: _) _ _); (refine stA hm ?_; clear hm; intro w hz hm ho)) | ((with_reducible show wpList _ _ _ (Oper.mk _ (Op.alloc _) _ _ _ _ :: _) _ _); (refine alA hm ?_; clear hm; intro n w hn hz hm ho; (try simp only [List.cons_append, List.nil_append] at hm)))); try simp only [Act.put, sxQ]))
  go_at_call 27
  refine (jp_Alive ((HC.out.resync hm).obj 0 rfl) HL.out).mono ?_
  rintro e w3 ⟨rfl, hb3⟩
  have hc2 := (HC.out.resync hm).below hb3
  clear hb3
  clear HC hm
  simp only [List.nil_append, List.cons_append, List.set_cons_zero, List.set_cons_succ] at hc2
  have HC := Lib.hid hc2
  clear hc2
  have hm := HC.out.rebase
  go_wp2_with (first | go_skip | ((with_reducible show wpList _ _ _ _ _ (World.alloc _ _)); refine wpList_up hm ?_; clear hm; intro n w hn hn2 hk hm hd hd2 ho; (try rw [← hn]); replace hn := Nat.le_of_eq hn.symm) | ((first | ((with_reducible show wpList _ _ _ (Oper.mk _ (Op.box _ _) _ _ _ _ :: _) _ _); (refine bxA hm ?_; clear hm; intro n w hn hz hm ho; (try simp only [List.cons_append, List.nil_append] at hm))) | ((with_reducible show wpList _ _ _ (Oper.mk _ (Op.load _ _) _ _ _ _ :: _) _ _); first | (refine ldA hm ?_) | (refine laA hm ?_)) | ((with_reducible show wpList _ _ _ (Oper.mk _ (Op.store _ _ _) _ _ _ _ :: _) _ _); (refine stA hm ?_; clear hm; intro w hz hm ho)) | ((with_reducible show wpList _ _ _ (Oper.mk _ (Op.alloc _) _ _ _ _ :: _) _ _); (refine alA hm ?_; clear hm; intro n w hn hz hm ho; (try simp only [List.cons_append, List.nil_append] at hm)))); try simp only [Act.put, sxQ]))
  go_at_call 28
  refine (slices_ContainsFuncJ (.pointer (some ⟨nb, 0, none⟩)) (fun y => !y.inB (48 * (st.length - 32))) ((HC.out.resync hm).val 1 rfl) HM.out (fun y hy u hu => jn_Apply1 nb ((HC.out.below hu).ent 0 rfl) ((HC.out.below hu).val 0 rfl) ((HC.out.below hu).obj 0 rfl) HL.out y (HYO.out y hy).1 (HYO.out y hy).2)).mono ?_
  rintro e w4 ⟨rfl, hb4⟩
  have hc2 := (HC.out.resync hm).below hb4
  clear hb4
  clear HC hm
  simp only [List.nil_append, List.cons_append, List.set_cons_zero, List.set_cons_succ] at hc2
  have HC := Lib.hid hc2
  clear hc2
  have hm := HC.out.rebase
  have hin : (l.any fun y => !y.inB (48 * (st.length - 32))) = !(JC.allIn (48 * (st.length - 32)) l) := by unfold JC.allIn; rw [Bool.not_not]
  rw [hin]
  clear hin
  cases hai : JC.allIn (48 * (st.length - 32)) l with
  | false =>
    go_wp2_with (first | go_skip | ((with_reducible show wpList _ _ _ _ _ (World.alloc _ _)); refine wpList_up hm ?_; clear hm; intro n w hn hn2 hk hm hd hd2 ho; (try rw [← hn]); replace hn := Nat.le_of_eq hn.symm) | ((first | ((with_reducible show wpList _ _ _ (Oper.mk _ (Op.box _ _) _ _ _ _ :: _) _ _); (refine bxA hm ?_; clear hm; intro n w hn hz hm ho; (try simp only [List.cons_append, List.nil_append] at hm))) | ((with_reducible show wpList _ _ _ (Oper.mk _ (Op.load _ _) _ _ _ _ :: _) _ _); first | (refine ldA hm ?_) | (refine laA hm ?_)) | ((with_reducible show wpList _ _ _ (Oper.mk _ (Op.store _ _ _) _ _ _ _ :: _) _ _); (refine stA hm ?_; clear hm; intro w hz hm ho)) | ((with_reducible show wpList _ _ _ (Oper.mk _ (Op.alloc _) _ _ _ _ :: _) _ _); (refine alA hm ?_; clear hm; intro n w hn hz hm ho; (try simp only [List.cons_append, List.nil_append] at hm)))); try simp only [Act.put, sxQ]))
    go_ret
    have hsc := HC.out.resync hm
    exact ⟨p, G, s, 2, rfl, hsc.obj 0 rfl, .inl ⟨hai, rfl, HL.out⟩, fun q h => .inl h, hsc.low, rfl⟩
  | true =>
    have HAI := Lib.hid hai
    clear hai
    go_wp2_with (first | go_skip | ((with_reducible show wpList _ _ _ _ _ (World.alloc _ _)); refine wpList_up hm ?_; clear hm; intro n w hn hn2 hk hm hd hd2 ho; (try rw [← hn]); replace hn := Nat.le_of_eq hn.symm) | ((first | ((with_reducible show wpList _ _ _ (Oper.mk _ (Op.box _ _) _ _ _ _ :: _) _ _); (refine bxA hm ?_; clear hm; intro n w hn hz hm ho; (try simp only [List.cons_append, List.nil_append] at hm))) | ((with_reducible show wpList _ _ _ (Oper.mk _ (Op.load _ _) _ _ _ _ :: _) _ _); first | (refine ldA hm ?_) | (refine laA hm ?_)) | ((with_reducible show wpList _ _ _ (Oper.mk _ (Op.store _ _ _) _ _ _ _ :: _) _ _); (refine stA hm ?_; clear hm; intro w hz hm ho)) | ((with_reducible show wpList _ _ _ (Oper.mk _ (Op.alloc _) _ _ _ _ :: _) _ _); (refine alA hm ?_; clear hm; intro n w hn hz hm ho; (try simp only [List.cons_append, List.nil_append] at hm)))); try simp only [Act.put, sxQ]))
    go_at_call 31
    refine (jn_weight A m c l _ ((HC.out.resync hm).val 1 rfl) HW.out HM.out).mono ?_
    rintro e w5 ⟨rfl, hb5⟩
    have hc2 := (HC.out.resync hm).below hb5
    clear hb5
    clear HC hm
    simp only [List.nil_append, List.cons_append, List.set_cons_zero, List.set_cons_succ] at hc2
    have HC := Lib.hid hc2
    clear hc2
    have hm := HC.out.rebase
    by_cases hwt : 1024 < JC.weight l
    · have i1 : decide (1024 < (JC.weight l : Int)) = true := decide_eq_true (by omega)
      have HWT := Lib.hid hwt
      clear hwt
      go_wp2_with (first | go_skip | ((with_reducible show wpList _ _ _ _ _ (World.alloc _ _)); refine wpList_up hm ?_; clear hm; intro n w hn hn2 hk hm hd hd2 ho; (try rw [← hn]); replace hn := Nat.le_of_eq hn.symm) | ((first | ((with_reducible show wpList _ _ _ (Oper.mk _ (Op.box _ _) _ _ _ _ :: _) _ _); (refine bxA hm ?_; clear hm; intro n w hn hz hm ho; (try simp only [List.cons_append, List.nil_append] at hm))) | ((with_reducible show wpList _ _ _ (Oper.mk _ (Op.load _ _) _ _ _ _ :: _) _ _); first | (refine ldA hm ?_) | (refine laA hm ?_)) | ((with_reducible show wpList _ _ _ (Oper.mk _ (Op.store _ _ _) _ _ _ _ :: _) _ _); (refine stA hm ?_; clear hm; intro w hz hm ho)) | ((with_reducible show wpList _ _ _ (Oper.mk _ (Op.alloc _) _ _ _ _ :: _) _ _); (refine alA hm ?_; clear hm; intro n w hn hz hm ho; (try simp only [List.cons_append, List.nil_append] at hm)))); try simp only [Act.put, sxQ]))
      go_ret
      have hsc := HC.out.resync hm
      exact ⟨p, G, s, 11, rfl, hsc.obj 0 rfl, .inr (.inl ⟨HAI.out, HWT.out, rfl, HL.out⟩), fun q h => .inl h, hsc.low, rfl⟩
    · have i1 : decide (1024 < (JC.weight l : Int)) = false := decide_eq_false (by omega)
      have HWT := Lib.hid (show JC.weight l ≤ 1024 by omega)
      clear hwt
      go_wp2_with (first | go_skip | ((with_reducible show wpList _ _ _ _ _ (World.alloc _ _)); refine wpList_up hm ?_; clear hm; intro n w hn hn2 hk hm hd hd2 ho; (try rw [← hn]); replace hn := Nat.le_of_eq hn.symm) | ((first | ((with_reducible show wpList _ _ _ (Oper.mk _ (Op.box _ _) _ _ _ _ :: _) _ _); (refine bxA hm ?_; clear hm; intro n w hn hz hm ho; (try simp only [List.cons_append, List.nil_append] at hm))) | ((with_reducible show wpList _ _ _ (Oper.mk _ (Op.load _ _) _ _ _ _ :: _) _ _); first | (refine ldA hm ?_) | (refine laA hm ?_)) | ((with_reducible show wpList _ _ _ (Oper.mk _ (Op.store _ _ _) _ _ _ _ :: _) _ _); (refine stA hm ?_; clear hm; intro w hz hm ho)) | ((with_reducible show wpList _ _ _ (Oper.mk _ (Op.alloc _) _ _ _ _ :: _) _ _); (refine alA hm ?_; clear hm; intro n w hn hz hm ho; (try simp only [List.cons_append, List.nil_append] at hm)))); try simp only [Act.put, sxQ]))
      go_at_call 28
      refine (slices_ContainsFuncD (fun y => decide (0 < y.n)) ((HC.out.resync hm).val 1 rfl) HM.out (fun y hy u hu => jn_Apply2 y u)).mono ?_
      rintro e w6 ⟨rfl, hb6⟩
      have hc2 := (HC.out.resync hm).below hb6
      clear hb6
      clear HC hm
      simp only [List.nil_append, List.cons_append, List.set_cons_zero, List.set_cons_succ] at hc2
      have HC := Lib.hid hc2
      clear hc2
      have hm := HC.out.rebase
      cases hda : l.any (fun y => decide (0 < y.n)) with
      | false =>
        have HDA := Lib.hid hda
        clear hda
        go_wp2_with (first | go_skip | ((with_reducible show wpList _ _ _ _ _ (World.alloc _ _)); refine wpList_up hm ?_; clear hm; intro n w hn hn2 hk hm hd hd2 ho; (try rw [← hn]); replace hn := Nat.le_of_eq hn.symm) | ((first | ((with_reducible show wpList _ _ _ (Oper.mk _ (Op.box _ _) _ _ _ _ :: _) _ _); (refine bxA hm ?_; clear hm; intro n w hn hz hm ho; (try simp only [List.cons_append, List.nil_append] at hm))) | ((with_reducible show wpList _ _ _ (Oper.mk _ (Op.load _ _) _ _ _ _ :: _) _ _); first | (refine ldA hm ?_) | (refine laA hm ?_)) | ((with_reducible show wpList _ _ _ (Oper.mk _ (Op.store _ _ _) _ _ _ _ :: _) _ _); (refine stA hm ?_; clear hm; intro w hz hm ho)) | ((with_reducible show wpList _ _ _ (Oper.mk _ (Op.alloc _) _ _ _ _ :: _) _ _); (refine alA hm ?_; clear hm; intro n w hn hz hm ho; (try simp only [List.cons_append, List.nil_append] at hm)))); try simp only [Act.put, sxQ]))
        go_ret
        have hsc := HC.out.resync hm
        have hch : Chs _ _ A m c l := hsc.val 1 rfl
        have he : Jn.pairs (JC.plains l) = [] := pairs_empty fun y hy => by
          have h1 := List.any_eq_false.1 HDA.out y hy
          have h2 := (hch.ok y hy).1
          simp only [decide_eq_true_eq] at h1
          exact List.eq_nil_of_length_eq_zero (by omega)
        exact ⟨p, G, s, 0, rfl, hsc.obj 0 rfl, .inr (.inr ⟨HAI.out, HWT.out, .inl ⟨rfl, st, HL.out.mono (by omega), by rw [he]; exact HS.out, rfl⟩⟩), fun q h => .inl h, hsc.low, rfl⟩
      | true =>
        have HDA := Lib.hid hda
        clear hda
        have hsc := HC.out.resync hm
        have hch : Chs _ _ A m c l := hsc.val 1 rfl
        obtain ⟨hall, hoff, hwi, hpos, hlen, hcl⟩ := apl_facts (fun y hy => (hch.ok y hy).1) HAI.out HDA.out HS.out HPS.out
        have HOFF := Lib.hid hoff
        have HALL := Lib.hid hall
        have HWI := Lib.hid hwi
        have HPOS := Lib.hid hpos
        have HLEN := Lib.hid hlen
        have HCL := Lib.hid hcl
        have HMC := Lib.hid (show m ≤ 1024 by
          have h1 := Jn.enc_len8 (JC.plains l)
          have h2 := hch.len
          have h3 := HWT.out
          rw [JC.plains, List.length_map] at h1
          rw [JC.plains] at hlen
          omega)
        clear hsc hch hall hoff hwi hpos hlen hcl
        go_upto_region 11 with (first | go_skip | ((with_reducible show wpList _ _ _ _ _ (World.alloc _ _)); refine wpList_up hm ?_; clear hm; intro n w hn hn2 hk hm hd hd2 ho; (try rw [← hn]); replace hn := Nat.le_of_eq hn.symm) | ((first | ((with_reducible show wpList _ _ _ (Oper.mk _ (Op.box _ _) _ _ _ _ :: _) _ _); (refine bxA hm ?_; clear hm; intro n w hn hz hm ho; (try simp only [List.cons_append, List.nil_append] at hm))) | ((with_reducible show wpList _ _ _ (Oper.mk _ (Op.load _ _) _ _ _ _ :: _) _ _); first | (refine ldA hm ?_) | (refine laA hm ?_)) | ((with_reducible show wpList _ _ _ (Oper.mk _ (Op.store _ _ _) _ _ _ _ :: _) _ _); (refine stA hm ?_; clear hm; intro w hz hm ho)) | ((with_reducible show wpList _ _ _ (Oper.mk _ (Op.alloc _) _ _ _ _ :: _) _ _); (refine alA hm ?_; clear hm; intro n w hn hz hm ho; (try simp only [List.cons_append, List.nil_append] at hm)))); try simp only [Act.put, sxQ]))
        refine wp_region_noPanic ?_
        refine wp_region_held_drew (S := KnS _ _) (by kernel_rfl) (KnS.of hm.drew (Rngs.nil _)) (fun hHeld => ?_)
        refine wpAnyH_fresh (by repeat (first | apply Fresh.a | apply Fresh.b)) ?_
        replace hm := hm.drew
        iterate 2 (first | (refine takeN 0 hHeld ?_) | (refine takeY 0 ?_ hHeld ?_ ?_; rotate_left 1; (first | (intro w9 h9; (with_reducible show (execOp _ (Oper.mk _ (Op.load _ _) _ _ _ _)).run _ _ = _); first | exact h9.ldA | exact h9.lcA | exact h9.laA | exact h9.lrA) | focus (intro w9 hSw; go_simp; (try (with_reducible rfl)); done))); try simp only [Act.put, sxQ])
        refine wpAnyH_ready (rs := [2]) (by kernel_rfl) (by simp) ?_
        refine AllReadyH.cons2 (by simp only [sxN]; first | done | exact rfl) (fun K hK => ?_)
        rw [if_pos (by rfl)]
        go_simp
        refine (jn_encode ((HC.out.resync hm).val 1 rfl) HOFF.out (by have := HWT.out; omega) HM.out).mono ?_
        rintro e w7 ⟨A7, k7, c7, rfl, hk7, ho7, hb7⟩
        have hc2 := (HC.out.resync hm).got hb7 ho7
        have HK7 := Lib.hid hk7
        clear hb7 ho7 hk7
        clear HC hm
        simp only [List.nil_append, List.cons_append, List.set_cons_zero, List.set_cons_succ] at hc2
        have HC := Lib.hid hc2
        clear hc2
        have hm := HC.out.rebase
        go_simp
        refine hK.out _ _ (KnS.of hm (Rngs.nil _)) (fun hHeld => ?_)
        clear hK K
        try simp only [Act.put, sxQ]
        refine wpAnyH_ready (rs := [3]) (by kernel_rfl) (by simp) ?_
        refine AllReadyH.cons2 (by simp only [sxN]; first | done | exact rfl) (fun K hK => ?_)
        rw [if_pos (by rfl)]
        go_simp
        refine (jn_log ((HC.out.resync hm).val 0 rfl) HD.out ((HC.out.resync hm).obj 0 rfl) HL.out (by omega) A7 k7 c7 (JC.plains l) S (HC.out.byt 0 rfl) (HC.out.bytO 0 0 rfl rfl).2 HCL.out (by have := HPOS.out; have := HK7.out; omega) (by have := HLEN.out; have := HK7.out; have := HWT.out; omega) HWI.out).mono ?_
        rintro e w8 ⟨p8, G8, s8, er, rfl, hp8, hR8, hG8, ho8, hgm8⟩
        have hc2 := (HC.out.resync hm).turn 0 rfl ho8 hG8 hp8.sup
        have HG8 := Lib.hid (show ∀ q, G8 q → G q ∨ w0.heap.size ≤ q from fun q hq => (hG8 q hq).imp id (fun h => Nat.le_trans (HC.out.resync hm).low.size h))
        clear hp8 hG8 ho8
        clear HC hm
        simp only [List.nil_append, List.cons_append, List.set_cons_zero, List.set_cons_succ] at hc2
        have HC := Lib.hid hc2
        clear hc2
        have hm := HC.out.rebase
        go_simp
        refine hK.out _ _ (KnS.of hm (Rngs.nil _)) (fun hHeld => ?_)
        clear hK K
        try simp only [Act.put, sxQ]
        iterate 1 (first | (refine takeN 4 hHeld ?_) | (refine takeY 4 ?_ hHeld ?_ ?_; rotate_left 1; (first | (intro w9 h9; (with_reducible show (execOp _ (Oper.mk _ (Op.load _ _) _ _ _ _)).run _ _ = _); first | exact h9.ldA | exact h9.lcA | exact h9.laA | exact h9.lrA) | focus (intro w9 hSw; go_simp; (try (with_reducible rfl)); done))); try simp only [Act.put, sxQ])
        refine wpAnyH_done (by kernel_rfl) ?_ _
        refine NoPanic.normal ?_
        rcases hR8 with ⟨rfl, st8, hL8, hlg8, hok8, hfl8, hle8⟩ | ⟨rfl, st8, hD8, hme8, hle8⟩
        · have HL8 := Lib.hid hL8
          have HLG8 := Lib.hid (And.intro hlg8 hok8)
          have HFL8 := Lib.hid (And.intro hfl8 hle8)
          clear hL8 hlg8 hok8 hfl8 hle8
          go_wp2_with (first | go_skip | ((with_reducible show wpList _ _ _ _ _ (World.alloc _ _)); refine wpList_up hm ?_; clear hm; intro n w hn hn2 hk hm hd hd2 ho; (try rw [← hn]); replace hn := Nat.le_of_eq hn.symm) | ((first | ((with_reducible show wpList _ _ _ (Oper.mk _ (Op.box _ _) _ _ _ _ :: _) _ _); (refine bxA hm ?_; clear hm; intro n w hn hz hm ho; (try simp only [List.cons_append, List.nil_append] at hm))) | ((with_reducible show wpList _ _ _ (Oper.mk _ (Op.load _ _) _ _ _ _ :: _) _ _); first | (refine ldA hm ?_) | (refine laA hm ?_)) | ((with_reducible show wpList _ _ _ (Oper.mk _ (Op.store _ _ _) _ _ _ _ :: _) _ _); (refine stA hm ?_; clear hm; intro w hz hm ho)) | ((with_reducible show wpList _ _ _ (Oper.mk _ (Op.alloc _) _ _ _ _ :: _) _ _); (refine alA hm ?_; clear hm; intro n w hn hz hm ho; (try simp only [List.cons_append, List.nil_append] at hm)))); try simp only [Act.put, sxQ]))
          go_at_call 35
          have hsc := HC.out.resync hm
          refine (jn_make (hsc.val 0 rfl) (fun hg => (HG8.out _ hg).elim HD.out (fun h => by have := HGJ.out; omega)) (hsc.obj 0 rfl) HL8.out (by omega) A m c l (hsc.val 1 rfl) (fun q hq hg => (hsc.scn.vs _ (List.mem_cons_of_mem _ List.mem_cons_self)).2.1 _ List.mem_cons_self q hg hq) (by have := HMC.out; omega) HLG8.out.2 HLG8.out.1 (fun y hy => (HALL.out y hy).1)).mono ?_
          rw [HFL8.out.1]
          rintro e w9 ⟨p9, G9, s9, er, rfl, hp9, hR9, hG9, ho9, hgm9⟩
          have hlow := hsc.low
          clear hsc hm HC
          go_wp2_with fail
          go_ret
          refine ⟨p9, G9, s9, er, rfl, hp9, .inr (.inr ⟨HAI.out, HWT.out, ?_⟩), fun q hq => (hG9 q hq).elim (HG8.out q) (fun h => .inr (Nat.le_trans hlow.size h)), hlow.more ho9 (fun q _ hq => HG8.out q hq), hgm9.trans hgm8⟩
          rcases hR9 with ⟨h1, st9, h2, h3, h4⟩ | ⟨h1, st9, h2, h3, h4⟩
          · exact .inl ⟨h1, st9, h2.mono (by omega), .inr h3, h4.trans HFL8.out.2⟩
          · exact .inr ⟨h1, st9, h2.mono (by omega), .inr (.inr h3), h4.trans HFL8.out.2⟩
        · have HD8 := Lib.hid hD8
          have HME8 := Lib.hid (And.intro hme8 hle8)
          clear hD8 hme8 hle8
          go_wp2_with (first | go_skip | ((with_reducible show wpList _ _ _ _ _ (World.alloc _ _)); refine wpList_up hm ?_; clear hm; intro n w hn hn2 hk hm hd hd2 ho; (try rw [← hn]); replace hn := Nat.le_of_eq hn.symm) | ((first | ((with_reducible show wpList _ _ _ (Oper.mk _ (Op.box _ _) _ _ _ _ :: _) _ _); (refine bxA hm ?_; clear hm; intro n w hn hz hm ho; (try simp only [List.cons_append, List.nil_append] at hm))) | ((with_reducible show wpList _ _ _ (Oper.mk _ (Op.load _ _) _ _ _ _ :: _) _ _); first | (refine ldA hm ?_) | (refine laA hm ?_)) | ((with_reducible show wpList _ _ _ (Oper.mk _ (Op.store _ _ _) _ _ _ _ :: _) _ _); (refine stA hm ?_; clear hm; intro w hz hm ho)) | ((with_reducible show wpList _ _ _ (Oper.mk _ (Op.alloc _) _ _ _ _ :: _) _ _); (refine alA hm ?_; clear hm; intro n w hn hz hm ho; (try simp only [List.cons_append, List.nil_append] at hm)))); try simp only [Act.put, sxQ]))
          go_ret
          have hsc := HC.out.resync hm
          exact ⟨p8, G8, s8, 7, rfl, hsc.obj 0 rfl, .inr (.inr ⟨HAI.out, HWT.out, .inr ⟨rfl, st8, HD8.out.mono (by omega), .inl (.inr HME8.out.1), HME8.out.2⟩⟩), HG8.out, hsc.low, hgm8⟩
end
end Go.Proofs.YtmhjddmamknglaaGreat
