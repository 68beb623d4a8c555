/-
  The journal: Open.
-/
import Derived.Test.YtmhjddmamknglaaGreatZ0
import Derived.Test.YtmhjddmamknglaaGreatJnZ
namespace Go.Proofs.YtmhjddmamknglaaGreat
set_option maxRecDepth 100000
set_option linter.unusedSimpArgs false
set_option linter.unusedVariables false
open Go.RowKit
set_option maxHeartbeats 8000000

section
variable {w0 : World} {g B : Nat} {G : Nat → Prop} {s : PgS} {p : Pg.P} {st : List (List UInt8)} {q : Prop}
theorem hSM {st : Jn.St} {S : List UInt8} (h : Jn.Meant st S) (h32 : ¬ st.length ≤ 32) : Jn.Means st S := h.resolve_left (fun h => h32 h.1)
/-- What Open has done: the space is there, or the power was cut. -/
def OpnR (w0 : World) (g B : Nat) (G : Nat → Prop) (s : PgS) (q : Prop) (st : List (List UInt8)) (S : List UInt8) (e : Ending) (w' : World) : Prop :=
  ∃ p' G' s', PAt w' g G' s' p' ∧ (∀ q, G' q → G q ∨ w0.heap.size ≤ q) ∧ Only G w0 w' ∧ s'.gm = s.gm ∧
    ((∃ gj st', e = .returned (.tuple #[.pointer (some ⟨gj, 0, none⟩), .int .i64 0]) ∧ JAt w' gj g ∧ w0.heap.size ≤ gj ∧ ¬ G' gj ∧ PL q B p' st' ∧ Jn.Good st' S ∧ st'.length = st.length) ∨
      (∃ st', e = .returned (.tuple #[.pointer none, .int .i64 7]) ∧ PD q B p' st' ∧ Jn.Meant st' S ∧ st'.length = st.length))
theorem jn_Open (H : PAt w0 g G s p) (L : PL q B p st) (hB : B ≤ 600000000) (S : List UInt8) (hS : Jn.Meant st S) :
    Calls Tryz.prog 16 #[.pointer (some ⟨g, 0, none⟩)] w0 (OpnR w0 g (B + 12000000) G s q st S) := by
  have hsc : Mth G w0 w0 [] [] [⟨G, fun u => PAt u g G s p⟩] [] := Mth.enter w0 G _ _ (fun x hx => by obtain rfl := List.mem_singleton.1 hx; exact H.sup) (List.pairwise_singleton _ _) (fun x hx q hq => by obtain rfl := List.mem_singleton.1 hx; exact hq) (fun x hx => by cases hx)
  have HC := Lib.hid hsc
  have hm := HC.out.rebase
  have HL := Lib.hid L
  have HS := Lib.hid hS
  have HP := Lib.hid L.pos
  have HG0 := Lib.hid (show ∀ q, G q → q < w0.heap.size from H.lt)
  have z0 : ((st.length : Int) == 0) = false := by rw [beq_eq_false_iff_ne]; have := L.pos; omega
  clear H L hS hsc
  go_enter Tryz.func16, Tryz.ntmps16
  go_wp2_with (first | go_skip | ((with_reducible show wpList _ _ _ _ _ (World.alloc _ _)); refine wpList_up hm ?_; clear hm; intro n w hn hn2 hk hm hd hd2 ho; (try rw [← hn]); replace hn := Nat.le_of_eq hn.symm) | ((first | ((with_reducible show wpList _ _ _ (Oper.mk _ (Op.box _ _) _ _ _ _ :: _) _ _); (refine bxA hm ?_; clear hm; intro n w hn hz hm ho; (try simp only [List.cons_append, List.nil_append] at hm))) | ((with_reducible show wpList _ _ _ (Oper.mk _ (Op.load _ _) _ _ _ _ :: _) _ _); first | (refine ldA hm ?_) | (refine laA hm ?_)) | ((with_reducible show wpList _ _ _ (Oper.mk _ (Op.store _ _ _) _ _ _ _ :: _) _ _); (refine stA hm ?_; clear hm; intro w hz hm ho)) | ((with_reducible show wpList _ _ _ (Oper.mk _ (Op.alloc _) _ _ _ _ :: _) _ _); (refine alA hm ?_; clear hm; intro n w hn hz hm ho; (try simp only [List.cons_append, List.nil_append] at hm)))); try simp only [Act.put, sxQ]))
  go_at_call 8
  refine (jp_Count ((HC.out.resync hm).obj 0 rfl) HL.out).mono ?_
  rintro e w2 ⟨rfl, hb2⟩
  have hc2 := (HC.out.resync hm).below hb2
  clear hb2
  clear HC hm
  simp only [List.nil_append, List.cons_append, List.set_cons_zero, List.set_cons_succ] at hc2
  have HC := Lib.hid hc2
  clear hc2
  have hm := HC.out.rebase
  go_wp2_with (first | go_skip | ((with_reducible show wpList _ _ _ _ _ (World.alloc _ _)); refine wpList_up hm ?_; clear hm; intro n w hn hn2 hk hm hd hd2 ho; (try rw [← hn]); replace hn := Nat.le_of_eq hn.symm) | ((first | ((with_reducible show wpList _ _ _ (Oper.mk _ (Op.box _ _) _ _ _ _ :: _) _ _); (refine bxA hm ?_; clear hm; intro n w hn hz hm ho; (try simp only [List.cons_append, List.nil_append] at hm))) | ((with_reducible show wpList _ _ _ (Oper.mk _ (Op.load _ _) _ _ _ _ :: _) _ _); first | (refine ldA hm ?_) | (refine laA hm ?_)) | ((with_reducible show wpList _ _ _ (Oper.mk _ (Op.store _ _ _) _ _ _ _ :: _) _ _); (refine stA hm ?_; clear hm; intro w hz hm ho)) | ((with_reducible show wpList _ _ _ (Oper.mk _ (Op.alloc _) _ _ _ _ :: _) _ _); (refine alA hm ?_; clear hm; intro n w hn hz hm ho; (try simp only [List.cons_append, List.nil_append] at hm)))); try simp only [Act.put, sxQ]))
  go_at_call 27
  refine (jp_Alive ((HC.out.resync hm).obj 0 rfl) HL.out).mono ?_
  rintro e w3 ⟨rfl, hb3⟩
  have hc2 := (HC.out.resync hm).below hb3
  clear hb3
  clear HC hm
  simp only [List.nil_append, List.cons_append, List.set_cons_zero, List.set_cons_succ] at hc2
  have HC := Lib.hid hc2
  clear hc2
  have hm := HC.out.rebase
  go_wp2_with (first | go_skip | ((with_reducible show wpList _ _ _ _ _ (World.alloc _ _)); refine wpList_up hm ?_; clear hm; intro n w hn hn2 hk hm hd hd2 ho; (try rw [← hn]); replace hn := Nat.le_of_eq hn.symm) | ((first | ((with_reducible show wpList _ _ _ (Oper.mk _ (Op.box _ _) _ _ _ _ :: _) _ _); (refine bxA hm ?_; clear hm; intro n w hn hz hm ho; (try simp only [List.cons_append, List.nil_append] at hm))) | ((with_reducible show wpList _ _ _ (Oper.mk _ (Op.load _ _) _ _ _ _ :: _) _ _); first | (refine ldA hm ?_) | (refine laA hm ?_)) | ((with_reducible show wpList _ _ _ (Oper.mk _ (Op.store _ _ _) _ _ _ _ :: _) _ _); (refine stA hm ?_; clear hm; intro w hz hm ho)) | ((with_reducible show wpList _ _ _ (Oper.mk _ (Op.alloc _) _ _ _ _ :: _) _ _); (refine alA hm ?_; clear hm; intro n w hn hz hm ho; (try simp only [List.cons_append, List.nil_append] at hm)))); try simp only [Act.put, sxQ]))
  obtain ⟨gj, h9⟩ := hm.nm 0 rfl
  dsimp only at h9
  subst h9
  go_at_call 8
  refine (jp_Count ((HC.out.resync hm).obj 0 rfl) HL.out).mono ?_
  rintro e w4 ⟨rfl, hb4⟩
  have HGJ := Lib.hid (show w0.heap.size ≤ gj from (HC.out.resync hm).lnew _ List.mem_cons_self)
  have hc2 := (HC.out.resync hm).below hb4
  clear hb4
  clear HC hm
  simp only [List.nil_append, List.cons_append, List.set_cons_zero, List.set_cons_succ] at hc2
  have HC := Lib.hid hc2
  clear hc2
  have hm := HC.out.rebase
  by_cases h32 : st.length ≤ 32
  · have i1 : decide ((st.length : Int) ≤ 32) = true := decide_eq_true (by omega)
    have H32 := Lib.hid h32
    clear h32
    go_wp2_with (first | go_skip | ((with_reducible show wpList _ _ _ _ _ (World.alloc _ _)); refine wpList_up hm ?_; clear hm; intro n w hn hn2 hk hm hd hd2 ho; (try rw [← hn]); replace hn := Nat.le_of_eq hn.symm) | ((first | ((with_reducible show wpList _ _ _ (Oper.mk _ (Op.box _ _) _ _ _ _ :: _) _ _); (refine bxA hm ?_; clear hm; intro n w hn hz hm ho; (try simp only [List.cons_append, List.nil_append] at hm))) | ((with_reducible show wpList _ _ _ (Oper.mk _ (Op.load _ _) _ _ _ _ :: _) _ _); first | (refine ldA hm ?_) | (refine laA hm ?_)) | ((with_reducible show wpList _ _ _ (Oper.mk _ (Op.store _ _ _) _ _ _ _ :: _) _ _); (refine stA hm ?_; clear hm; intro w hz hm ho)) | ((with_reducible show wpList _ _ _ (Oper.mk _ (Op.alloc _) _ _ _ _ :: _) _ _); (refine alA hm ?_; clear hm; intro n w hn hz hm ho; (try simp only [List.cons_append, List.nil_append] at hm)))); try simp only [Act.put, sxQ]))
    go_ret2
    have hsc := HC.out.resync hm
    refine ⟨p, G, s, hsc.obj 0 rfl, fun q h => .inl h, hsc.low, rfl, .inl ⟨gj, st, rfl, hsc.ent 0 rfl, HGJ.out, fun hg => by have := HG0.out _ hg; have := HGJ.out; omega, HL.out.mono (by omega), ?_, rfl⟩⟩
    rcases HS.out with h | h
    · exact .inl h
    · have := h.ok.big; have := H32.out; omega
  · have i1 : decide ((st.length : Int) ≤ 32) = false := decide_eq_false (by omega)
    have HME := Lib.hid (show Jn.Means st S from hSM HS.out h32)
    clear h32
    go_wp2_with (first | go_skip | ((with_reducible show wpList _ _ _ _ _ (World.alloc _ _)); refine wpList_up hm ?_; clear hm; intro n w hn hn2 hk hm hd hd2 ho; (try rw [← hn]); replace hn := Nat.le_of_eq hn.symm) | ((first | ((with_reducible show wpList _ _ _ (Oper.mk _ (Op.box _ _) _ _ _ _ :: _) _ _); (refine bxA hm ?_; clear hm; intro n w hn hz hm ho; (try simp only [List.cons_append, List.nil_append] at hm))) | ((with_reducible show wpList _ _ _ (Oper.mk _ (Op.load _ _) _ _ _ _ :: _) _ _); first | (refine ldA hm ?_) | (refine laA hm ?_)) | ((with_reducible show wpList _ _ _ (Oper.mk _ (Op.store _ _ _) _ _ _ _ :: _) _ _); (refine stA hm ?_; clear hm; intro w hz hm ho)) | ((with_reducible show wpList _ _ _ (Oper.mk _ (Op.alloc _) _ _ _ _ :: _) _ _); (refine alA hm ?_; clear hm; intro n w hn hz hm ho; (try simp only [List.cons_append, List.nil_append] at hm)))); try simp only [Act.put, sxQ]))
    go_at_call 44
    refine (jp_Read ((HC.out.resync hm).obj 0 rfl) HL.out (by omega) 0 (by have := HP.out; omega)).mono ?_
    rintro e w5 ⟨A5, m5, c5, rfl, ho5, hc5, hL5, hp5, hon5⟩
    have hc2 := (HC.out.resync hm).turned 0 rfl hon5 (fun q h => .inl h) hp5.sup ho5 (fun q hq e => by have := ((HC.out.resync hm).lt 0 rfl) q hq; have := (ho5.lt _ e).1; omega)
    have HL5 := Lib.hid hL5
    have hA5 : ∃ q5, A5 = some ⟨q5, 0, none⟩ := by
      obtain ⟨q5, _, e5, _⟩ := ho5.2.2.2 (by have := ho5.2.1; omega)
      exact ⟨q5, e5⟩
    obtain ⟨q5, rfl⟩ := hA5
    have hm5 : 8 ≤ m5 := Nat.le_trans (by decide) ho5.2.1
    clear hL5 hon5 hp5 ho5
    clear HC hm
    simp only [List.nil_append, List.cons_append, List.set_cons_zero, List.set_cons_succ] at hc2
    have HC := Lib.hid hc2
    clear hc2
    have hm := HC.out.rebase
    have hb48 : Byt w5 w5.heap.size (some ⟨q5, 0, none⟩) 48 m5 (st.getD 0 []) := HC.out.byt 0 rfl
    have HB8 := Lib.hid (show Byt w5 w5.heap.size (some ⟨q5, 0, none⟩) 8 m5 ((st.getD 0 []).take 8) from ⟨by rw [List.length_take, hb48.1]; rfl, hm5, Row.btake hb48.2.2 8⟩)
    clear hb48
    have HNU : Hid (Jn.num ((st.getD 0 []).take 8) = Jn.headOf st ∧ Jn.headOf st ≤ 1024) := Lib.hid ⟨rfl, by
      rcases HME.out with h | ⟨_, l, h, _⟩
      · rw [h.head]; omega
      · rw [h.head]; exact h.le⟩
    go_wp2_with (first | go_skip | ((with_reducible show wpList _ _ _ _ _ (World.alloc _ _)); refine wpList_up hm ?_; clear hm; intro n w hn hn2 hk hm hd hd2 ho; (try rw [← hn]); replace hn := Nat.le_of_eq hn.symm) | ((first | ((with_reducible show wpList _ _ _ (Oper.mk _ (Op.box _ _) _ _ _ _ :: _) _ _); (refine bxA hm ?_; clear hm; intro n w hn hz hm ho; (try simp only [List.cons_append, List.nil_append] at hm))) | ((with_reducible show wpList _ _ _ (Oper.mk _ (Op.load _ _) _ _ _ _ :: _) _ _); first | (refine ldA hm ?_) | (refine laA hm ?_)) | ((with_reducible show wpList _ _ _ (Oper.mk _ (Op.store _ _ _) _ _ _ _ :: _) _ _); (refine stA hm ?_; clear hm; intro w hz hm ho)) | ((with_reducible show wpList _ _ _ (Oper.mk _ (Op.alloc _) _ _ _ _ :: _) _ _); (refine alA hm ?_; clear hm; intro n w hn hz hm ho; (try simp only [List.cons_append, List.nil_append] at hm)))); try simp only [Act.put, sxQ]))
    go_at_call 45
    refine (jn_number (some ⟨q5, 0, none⟩) 8 m5 _ _ HB8.out (by rw [HNU.out.1]; have := HNU.out.2; omega) (by omega)).mono ?_
    rintro e w6 ⟨rfl, rfl⟩
    rw [HNU.out.1]
    rcases HME.out with hcl | ⟨hok, l, hlog, hfl⟩
    · rw [hcl.head]
      have HCL := Lib.hid hcl
      clear hcl
      go_wp2_with (first | go_skip | ((with_reducible show wpList _ _ _ _ _ (World.alloc _ _)); refine wpList_up hm ?_; clear hm; intro n w hn hn2 hk hm hd hd2 ho; (try rw [← hn]); replace hn := Nat.le_of_eq hn.symm) | ((first | ((with_reducible show wpList _ _ _ (Oper.mk _ (Op.box _ _) _ _ _ _ :: _) _ _); (refine bxA hm ?_; clear hm; intro n w hn hz hm ho; (try simp only [List.cons_append, List.nil_append] at hm))) | ((with_reducible show wpList _ _ _ (Oper.mk _ (Op.load _ _) _ _ _ _ :: _) _ _); first | (refine ldA hm ?_) | (refine laA hm ?_)) | ((with_reducible show wpList _ _ _ (Oper.mk _ (Op.store _ _ _) _ _ _ _ :: _) _ _); (refine stA hm ?_; clear hm; intro w hz hm ho)) | ((with_reducible show wpList _ _ _ (Oper.mk _ (Op.alloc _) _ _ _ _ :: _) _ _); (refine alA hm ?_; clear hm; intro n w hn hz hm ho; (try simp only [List.cons_append, List.nil_append] at hm)))); try simp only [Act.put, sxQ]))
      go_ret2
      have hsc := HC.out.resync hm
      exact ⟨_, G, s, hsc.obj 0 rfl, fun q h => .inl h, hsc.low, rfl, .inl ⟨gj, st, rfl, hsc.ent 0 rfl, HGJ.out, fun hg => by have := HG0.out _ hg; have := HGJ.out; omega, HL5.out.mono (by omega), .inr HCL.out, rfl⟩⟩
    · obtain ⟨m0, hm0⟩ : ∃ m0, m0 = (Jn.enc l).length := ⟨_, rfl⟩
      have i2 : decide (0 < (m0 : Int)) = true := decide_eq_true (by have := hlog.pos; omega)
      have i3 : decide (0 < m0) = true := decide_eq_true (by have := hlog.pos; omega)
      have i4 : 0 < m0 := by have := hlog.pos; omega
      rw [hlog.head, ← hm0]
      have HLOG := Lib.hid hlog
      have HOK := Lib.hid hok
      have HFL := Lib.hid hfl
      have HM0 := Lib.hid hm0
      clear hlog hok hfl hm0
      go_wp2_with (first | go_skip | ((with_reducible show wpList _ _ _ _ _ (World.alloc _ _)); refine wpList_up hm ?_; clear hm; intro n w hn hn2 hk hm hd hd2 ho; (try rw [← hn]); replace hn := Nat.le_of_eq hn.symm) | ((first | ((with_reducible show wpList _ _ _ (Oper.mk _ (Op.box _ _) _ _ _ _ :: _) _ _); (refine bxA hm ?_; clear hm; intro n w hn hz hm ho; (try simp only [List.cons_append, List.nil_append] at hm))) | ((with_reducible show wpList _ _ _ (Oper.mk _ (Op.load _ _) _ _ _ _ :: _) _ _); first | (refine ldA hm ?_) | (refine laA hm ?_)) | ((with_reducible show wpList _ _ _ (Oper.mk _ (Op.store _ _ _) _ _ _ _ :: _) _ _); (refine stA hm ?_; clear hm; intro w hz hm ho)) | ((with_reducible show wpList _ _ _ (Oper.mk _ (Op.alloc _) _ _ _ _ :: _) _ _); (refine alA hm ?_; clear hm; intro n w hn hz hm ho; (try simp only [List.cons_append, List.nil_append] at hm)))); try simp only [Act.put, sxQ]))
      go_at_call 46
      refine (jn_repeat (gj := gj) ((HC.out.resync hm).ent 0 rfl) (show ¬ G gj from fun hg => by have := HG0.out _ hg; have := HGJ.out; omega) ((HC.out.resync hm).obj 0 rfl) HL5.out (by omega) HOK.out l HLOG.out m0 HM0.out).mono ?_
      rintro e w7 ⟨p7, G7, s7, er, rfl, hp7, hR7, hG7, ho7, hgm7⟩
      have hgl : gj < w6.heap.size := (HC.out.resync hm).scn.cal.mem.lt List.mem_cons_self
      have HG7 := Lib.hid (show (∀ q, G7 q → G q ∨ w0.heap.size ≤ q) ∧ ¬ G7 gj from ⟨fun q hq => (hG7 q hq).imp id (fun h => Nat.le_trans (HC.out.resync hm).low.size h), fun hg => (hG7 _ hg).elim (fun hg => by have := HG0.out _ hg; have := HGJ.out; omega) (fun h => by omega)⟩)
      have hc2 := (HC.out.resync hm).turn 0 rfl ho7 hG7 hp7.sup
      clear hp7 hG7 ho7 hgl
      clear HC hm
      simp only [List.nil_append, List.cons_append, List.set_cons_zero, List.set_cons_succ] at hc2
      have HC := Lib.hid hc2
      clear hc2
      have hm := HC.out.rebase
      rw [HFL.out] at hR7
      rcases hR7 with ⟨rfl, st8, hL8, hcl8, hle8⟩ | ⟨rfl, st8, hD8, hme8, hle8⟩
      · have H8 := Lib.hid (And.intro hL8 (And.intro hcl8 hle8))
        clear hL8 hcl8 hle8
        go_wp2_with (first | go_skip | ((with_reducible show wpList _ _ _ _ _ (World.alloc _ _)); refine wpList_up hm ?_; clear hm; intro n w hn hn2 hk hm hd hd2 ho; (try rw [← hn]); replace hn := Nat.le_of_eq hn.symm) | ((first | ((with_reducible show wpList _ _ _ (Oper.mk _ (Op.box _ _) _ _ _ _ :: _) _ _); (refine bxA hm ?_; clear hm; intro n w hn hz hm ho; (try simp only [List.cons_append, List.nil_append] at hm))) | ((with_reducible show wpList _ _ _ (Oper.mk _ (Op.load _ _) _ _ _ _ :: _) _ _); first | (refine ldA hm ?_) | (refine laA hm ?_)) | ((with_reducible show wpList _ _ _ (Oper.mk _ (Op.store _ _ _) _ _ _ _ :: _) _ _); (refine stA hm ?_; clear hm; intro w hz hm ho)) | ((with_reducible show wpList _ _ _ (Oper.mk _ (Op.alloc _) _ _ _ _ :: _) _ _); (refine alA hm ?_; clear hm; intro n w hn hz hm ho; (try simp only [List.cons_append, List.nil_append] at hm)))); try simp only [Act.put, sxQ]))
        go_ret2
        have hsc := HC.out.resync hm
        exact ⟨p7, G7, s7, hsc.obj 0 rfl, HG7.out.1, hsc.low, hgm7, .inl ⟨gj, st8, rfl, hsc.ent 0 rfl, HGJ.out, HG7.out.2, H8.out.1.mono (by omega), .inr H8.out.2.1, H8.out.2.2⟩⟩
      · have H8 := Lib.hid (And.intro hD8 (And.intro hme8 hle8))
        clear hD8 hme8 hle8
        go_wp2_with (first | go_skip | ((with_reducible show wpList _ _ _ _ _ (World.alloc _ _)); refine wpList_up hm ?_; clear hm; intro n w hn hn2 hk hm hd hd2 ho; (try rw [← hn]); replace hn := Nat.le_of_eq hn.symm) | ((first | ((with_reducible show wpList _ _ _ (Oper.mk _ (Op.box _ _) _ _ _ _ :: _) _ _); (refine bxA hm ?_; clear hm; intro n w hn hz hm ho; (try simp only [List.cons_append, List.nil_append] at hm))) | ((with_reducible show wpList _ _ _ (Oper.mk _ (Op.load _ _) _ _ _ _ :: _) _ _); first | (refine ldA hm ?_) | (refine laA hm ?_)) | ((with_reducible show wpList _ _ _ (Oper.mk _ (Op.store _ _ _) _ _ _ _ :: _) _ _); (refine stA hm ?_; clear hm; intro w hz hm ho)) | ((with_reducible show wpList _ _ _ (Oper.mk _ (Op.alloc _) _ _ _ _ :: _) _ _); (refine alA hm ?_; clear hm; intro n w hn hz hm ho; (try simp only [List.cons_append, List.nil_append] at hm)))); try simp only [Act.put, sxQ]))
        go_ret2
        have hsc := HC.out.resync hm
        exact ⟨p7, G7, s7, hsc.obj 0 rfl, HG7.out.1, hsc.low, hgm7, .inr ⟨st8, rfl, H8.out.1.mono (by omega), .inr H8.out.2.1, H8.out.2.2⟩⟩
end
end Go.Proofs.YtmhjddmamknglaaGreat
