/-
  The journal: bytes out of several pages.
-/
import Derived.Test.YtmhjddmamknglaaGreatZ0
import Derived.Test.YtmhjddmamknglaaGreatJnD
import Derived.Test.YtmhjddmamknglaaGreatZ3
namespace Go.Proofs.YtmhjddmamknglaaGreat
set_option maxRecDepth 100000
set_option linter.unusedSimpArgs false
set_option linter.unusedVariables false
open Go.RowKit
set_option maxHeartbeats 8000000

theorem JAt.sup {w : World} {gj g : Nat} (h : JAt w gj g) : Sup w (fun q => q = gj) (fun u => JAt u gj g) :=
  ⟨h, fun q e => e ▸ Blk.lt h, fun _ _ ho hd => Blk.only h ho (hd gj rfl)⟩
/-- Journal and pages, as a method finds them. -/
theorem Mth.jn {w0 : World} {gj g : Nat} {G : Nat → Prop} {s : PgS} {p : Pg.P} (hj : JAt w0 gj g) (hd : ¬ G gj) (H : PAt w0 g G s p) : Mth G w0 w0 [] [] [⟨G, fun u => PAt u g G s p⟩] [⟨fun q => q = gj, fun u => JAt u gj g⟩] :=
  Mth.enter w0 G _ _ (fun x hx => by obtain rfl := List.mem_singleton.1 hx; exact H.sup) (List.pairwise_singleton _ _) (fun x hx q hq => by obtain rfl := List.mem_singleton.1 hx; exact hq)
    (fun x hx => by
      obtain rfl := List.mem_singleton.1 hx
      exact ⟨hj.sup, fun y hy q hq e => by obtain rfl := List.mem_singleton.1 hy; exact hd (e ▸ hq)⟩)
theorem JAt.rng {w0 : World} {gj g : Nat} {G : Nat → Prop} (hj : JAt w0 gj g) (hd : ¬ G gj) (u : World) (hu : Only G w0 u) : Rngs [⟨gj, 0, [.pointer (some ⟨g, 0, none⟩)]⟩] u := fun r hr => by
  obtain rfl := List.mem_singleton.1 hr
  have h := Blk.only hj hu hd
  intro j v hv
  cases j with
  | zero => cases hv; exact h.cell 0
  | succ j => simp at hv
theorem wr_div (a d : Nat) (h : d = a / 48) (ha : a < 1099511627776) : wrap64 ((a : Int) / 48) = (d : Int) := by
  subst h
  rw [IntWalk.wrap64_in _ (by omega)]; rfl
theorem wr_mod (a d : Nat) (h : d = a % 48) : wrap64 ((a : Int) % 48) = (d : Int) := by
  subst h
  rw [IntWalk.wrap64_in _ (by omega)]; rfl
theorem wr_add (a b d : Nat) (h : d = a + b) (hd : d < 1099511627776) : wrap64 ((a : Int) + (b : Int)) = (d : Int) := by
  subst h
  rw [IntWalk.wrap64_in _ (by omega)]; rfl
theorem wr_sub (a b d : Nat) (h : d + b = a) (hd : a < 1099511627776) : wrap64 ((a : Int) - (b : Int)) = (d : Int) := by
  rw [IntWalk.wrap64_in _ (by omega)]; omega
theorem piece_facts (a r l at0 z hi : Nat) (hat : at0 = a % 48) (hl : l = min (48 - a % 48) r) (hz : z = at0 + r) (hhi : hi = at0 + l) (hr : r < 1099511000000) : wrap64 ((at0 : Int) + (r : Int)) = (at0 : Int) + (r : Int) ∧ (a : Int) % 48 = (at0 : Int) ∧ min 48 ((at0 : Int) + (r : Int)) = (hi : Int) ∧ at0 ≤ hi ∧ hi ≤ 48 ∧ at0 < 48 ∧ hi - at0 = l := by
  subst hz hhi
  have h1 : at0 < 48 := by omega
  rw [← hat] at hl
  have h2 : l = 48 - at0 ∨ l = r := by omega
  have h3 : l ≤ 48 - at0 ∧ l ≤ r := by omega
  refine ⟨IntWalk.wrap64_in _ (by omega), by omega, ?_, by omega, by omega, h1, by omega⟩
  rcases h2 with h2 | h2 <;> omega
theorem round_facts (off k a r l m0 j : Nat) (hak : a = off + k) (hkr : k + r = m0) (hrg : r ≤ j + 1) (hl : l = min (48 - a % 48) r) (h0 : 0 < l) (h1 : a % 48 + l ≤ 48) (hab : a < 1099511000000) : a + l = off + (k + l) ∧ k + l + (r - l) = m0 ∧ r - l ≤ j ∧ l ≤ r ∧ a + l < 1099511627776 ∧ (r : Int) - (l : Int) = ((r - l : Nat) : Int) := by
  have h2 : l ≤ r := by omega
  clear hl
  refine ⟨by omega, by omega, by omega, h2, by omega, by omega⟩
theorem o_u8J : (Tryz.prog.info? 5).map (fun i => (i.zero, i.size, i.bytes)) = some (some (.int .u8 0), 1, 1) := by kernel_rfl
/-- Bytes are appended to a slice of the method's own. -/
theorem wpList_apJ {ops : Array Oper} {rest : List Oper} {o : Oper} {a : Act} {w0 w : World} {Q : Exit → Act → World → Prop} {G0 : Nat → Prop} {L : List Ent} {O : List Osl} {Fs Vs : List Thing} (hgd : o.guard = none) (x y : Operand)
    (ho : o.op = .call { callee := .builtin .append, args := #[x, y], argTypes := #[33, 33] })
    (A : Option Addr) (n c : Nat) (X : List UInt8) (hx : a.eval x = .slice A n c) (hm : Mth G0 w0 w L O Fs Vs) (k : Nat) (hk : O[k]? = some ⟨5, 1, A, n, c, bcells X⟩) (hV : ∀ x ∈ Vs, ∀ q, x.G q → q < w0.heap.size)
    (B : Nat) (A' : Option Addr) (m c' : Nat) (M : List UInt8) (hy : a.eval y = .slice A' m c') (hr : Row w B A' (bcells M)) (hl : M.length = m) (hsz : n + m ≤ 1000000000)
    (h : ∀ A2 c2 w1, Mth G0 w0 w1 L (O.set k ⟨5, 1, A2, n + m, c2, bcells (X ++ M)⟩) Fs Vs → wpList Tryz.prog ops Q rest (a.put o.dst (.slice A2 (n + m) c2)) w1) : wpList Tryz.prog ops Q (o :: rest) a w := by
  obtain ⟨ti, hti, hz0, hz1, hz2⟩ := info_parts o_u8J
  refine wpList_append w hgd x y 33 ho 0 5 ti _ 1 1 Tryz.underlying33 hti hz0 hz1 hz2 rfl (by omega) A n c (bcells X) hx (hm.scn.cal.mem.sl _ (List.mem_of_getElem? hk)) B A' m c' (bcells M) hy hr (by rw [length_bcells, hl]; omega) (bcells_one _) (by unfold maxLen; omega) (by omega) (Nat.zero_le _) ?_
  intro A2 c2 w1 h1 h2 h3
  rw [← bcells_append] at h1
  exact h A2 c2 w1 (hm.app k hk h1 h2 h3 hV)
namespace Jn
def span (st : St) (first off n : Nat) : Bs := ((st.drop first).flatten.drop off).take n
theorem span_step (st : St) (hst : ∀ x ∈ st, x.length = 48) (first off k l : Nat) (hk : (off + k) % 48 + l ≤ 48) (hin : off + k + l ≤ 48 * (st.length - first)) : span st first off (k + l) = span st first off k ++ ((st.getD (first + (off + k) / 48) []).drop ((off + k) % 48)).take l := by
  by_cases h0 : l = 0
  · subst h0; simp
  unfold span
  rw [List.take_add, List.drop_drop]
  congr 1
  have hd : ∀ x ∈ st.drop first, x.length = 48 := fun x hx => hst x (List.mem_of_mem_drop hx)
  have hF := flatten_length _ hd
  rw [List.length_drop] at hF
  have hi : first + (off + k) / 48 < st.length := by omega
  have hpl : (st.getD (first + (off + k) / 48) []).length = 48 := by rw [getD_eq hi]; exact hst _ (List.getElem_mem hi)
  apply ext_getD
  · rw [List.length_take, List.length_take, List.length_drop, List.length_drop, hF, hpl]; omega
  · intro i hi2
    rw [List.length_take, List.length_drop, hF] at hi2
    have h1 := flatten_at _ hd (off + k + i) (by rw [List.length_drop]; omega)
    rw [getD_drop, show first + (off + k + i) / 48 = first + (off + k) / 48 by omega, show (off + k + i) % 48 = (off + k) % 48 + i by omega] at h1
    simp only [List.getD] at h1 ⊢
    rw [List.getElem?_take, if_pos (by omega), List.getElem?_take, if_pos (by omega), List.getElem?_drop, List.getElem?_drop]
    exact h1
end Jn
section
variable {w0 : World} {g gj B : Nat} {G : Nat → Prop} {s : PgS} {p : Pg.P} {st : List (List UInt8)} {q : Prop}
/-- Bytes, or nothing; the pages show what they did. -/
def JnB (w : World) (g B : Nat) (G : Nat → Prop) (s : PgS) (q : Prop) (p : Pg.P) (st : List (List UInt8)) (n : Nat) (bs : List UInt8) (e : Ending) (w' : World) : Prop :=
  ∃ A m c, e = .returned (.tuple #[.slice A n m, .int .i64 0]) ∧ Own w' w.heap.size 5 1 A n m (bcells bs) ∧ PAt w' g G s (p.more c) ∧ PL q B (p.more c) st ∧ Only G w w'
theorem jn_pages (hj : JAt w0 gj g) (hd : ¬ G gj) (H : PAt w0 g G s p) (L : PL q B p st) (first off m0 : Nat) (hB : B + 1000 * m0 ≤ 900000000) (hm0 : off + m0 ≤ 48 * (st.length - first)) :
    Calls Tryz.prog 48 #[.pointer (some ⟨gj, 0, none⟩), .int .i64 (first : Int), .int .i64 (off : Int), .int .i64 (m0 : Int)] w0 (JnB w0 g (B + 1000 * m0) G s q p st m0 (Jn.span st first off m0)) := by
  have HP := Lib.hid L.pos
  have HC := Lib.hid (Mth.jn hj hd H)
  have RKJ := Lib.hid (JAt.rng hj hd)
  have hm := HC.out.rebase
  have HL := Lib.hid L
  have HGJ := Lib.hid (show gj < w0.heap.size from Blk.lt hj)
  have HS := Lib.hid (fun (i : Nat) (hi : i < st.length) => L.st_len hi)
  have HST := Lib.hid (show ∀ x ∈ st, x.length = 48 from fun x hx => by
    obtain ⟨i, hi, rfl⟩ := List.mem_iff_getElem.1 hx
    have := L.st_len hi
    rwa [Jn.getD_eq hi] at this)
  clear hj hd H L
  go_enter Tryz.func48, Tryz.ntmps48
  go_wp2_with (first | go_skip | ((with_reducible show wpList _ _ _ _ _ (World.alloc _ _)); refine wpList_up hm ?_; clear hm; intro n w hn hn2 hk hm hd hd2 ho; (try rw [← hn]); replace hn := Nat.le_of_eq hn.symm) | ((first | ((with_reducible show wpList _ _ _ (Oper.mk _ (Op.box _ _) _ _ _ _ :: _) _ _); (refine bxA hm ?_; clear hm; intro n w hn hz hm ho; (try simp only [List.cons_append, List.nil_append] at hm))) | ((with_reducible show wpList _ _ _ (Oper.mk _ (Op.load _ _) _ _ _ _ :: _) _ _); first | (refine ldA hm ?_) | (refine laA hm ?_) | (refine lcA (RKJ.out _ (HC.out.resync hm).low) ?_) | (refine lrA (RKJ.out _ (HC.out.resync hm).low) ?_)) | ((with_reducible show wpList _ _ _ (Oper.mk _ (Op.store _ _ _) _ _ _ _ :: _) _ _); (refine stA hm ?_; clear hm; intro w hz hm ho)) | ((with_reducible show wpList _ _ _ (Oper.mk _ (Op.alloc _) _ _ _ _ :: _) _ _); (refine alA hm ?_; clear hm; intro n w hn hz hm ho; (try simp only [List.cons_append, List.nil_append] at hm)))); try simp only [Act.put, sxQ]))
  replace hm := hm.empty 5 1 none
  have hc2 := HC.out.resync hm
  clear HC hm
  simp only [List.nil_append, List.cons_append, List.set_cons_zero, List.set_cons_succ] at hc2
  have HC := Lib.hid hc2
  clear hc2
  have hm := HC.out.rebase
  go_loopg [2, 3, 10] m0 (fun gk v2 v3 v10 wr => ∃ k a r A c cc, a = off + k ∧ k + r = m0 ∧ r ≤ gk ∧ v2 = .int .i64 (a : Int) ∧ v3 = .int .i64 (r : Int) ∧ v10 = .slice A k c ∧ PL q (B + 1000 * k) (p.more cc) st ∧ Mth G w0 wr [] [⟨5, 1, A, k, c, bcells (Jn.span st first off k)⟩] [⟨G, fun u => PAt u g G s (p.more cc)⟩] [⟨fun q => q = gj, fun u => JAt u gj g⟩])
  case atStart => exact ⟨0, off, m0, none, 0, 0, by omega, by omega, by omega, rfl, rfl, rfl, HL.out, HC.out⟩
  case round =>
    clear HC hm
    obtain ⟨k, a, r, A, c, cc, hak, hkr, hrg, rfl, rfl, rfl, hL, hsc⟩ := hrel
    have HC := Lib.hid hsc
    have HL2 := Lib.hid hL
    have hm := HC.out.rebase
    clear hsc hL
    have HAK := Lib.hid hak
    by_cases hr : r = 0
    · subst hr
      obtain rfl : m0 = k := by omega
      clear hak
      go_wp2_with (first | go_skip | ((with_reducible show wpList _ _ _ _ _ (World.alloc _ _)); refine wpList_up hm ?_; clear hm; intro n w hn hn2 hk hm hd hd2 ho; (try rw [← hn]); replace hn := Nat.le_of_eq hn.symm) | ((first | ((with_reducible show wpList _ _ _ (Oper.mk _ (Op.box _ _) _ _ _ _ :: _) _ _); (refine bxA hm ?_; clear hm; intro n w hn hz hm ho; (try simp only [List.cons_append, List.nil_append] at hm))) | ((with_reducible show wpList _ _ _ (Oper.mk _ (Op.load _ _) _ _ _ _ :: _) _ _); first | (refine ldA hm ?_) | (refine laA hm ?_) | (refine lcA (RKJ.out _ (HC.out.resync hm).low) ?_) | (refine lrA (RKJ.out _ (HC.out.resync hm).low) ?_)) | ((with_reducible show wpList _ _ _ (Oper.mk _ (Op.store _ _ _) _ _ _ _ :: _) _ _); (refine stA hm ?_; clear hm; intro w hz hm ho)) | ((with_reducible show wpList _ _ _ (Oper.mk _ (Op.alloc _) _ _ _ _ :: _) _ _); (refine alA hm ?_; clear hm; intro n w hn hz hm ho; (try simp only [List.cons_append, List.nil_append] at hm)))); try simp only [Act.put, sxQ]))
      go_ret2
      have hsc := HC.out.resync hm
      exact ⟨A, c, cc, rfl, hsc.own 0 rfl, hsc.obj 0 rfl, HL2.out, hsc.low⟩
    · skip
      obtain ⟨j, rfl⟩ : ∃ j, gk = j + 1 := ⟨gk - 1, by omega⟩
      have hp2 := HP.out
      have hrb : r < 1099511000000 := by omega
      have HAB := Lib.hid (show a < 1099511000000 by omega)
      have i1 : decide (0 < r) = true := decide_eq_true (by omega)
      have hpi : first + a / 48 < st.length := by omega
      have hHS := HST.out
      obtain ⟨l, hl⟩ : ∃ l, l = min (48 - a % 48) r := ⟨_, rfl⟩
      have hl1 : 0 < l := by omega
      have hl2 : a % 48 + l ≤ 48 := by omega
      have hstep := Jn.span_step st hHS first off k l (by omega) (by omega)
      rw [← hak] at hstep
      obtain ⟨i0, hi0⟩ : ∃ i0, i0 = first + a / 48 := ⟨_, rfl⟩
      obtain ⟨at0, hat⟩ : ∃ at0, at0 = a % 48 := ⟨_, rfl⟩
      rw [← hi0, ← hat] at hstep
      obtain ⟨d0, hd0⟩ : ∃ d0, d0 = a / 48 := ⟨_, rfl⟩
      have u1 := wr_div a d0 hd0 (by omega)
      have u2 := wr_add first d0 i0 (by omega) (by omega)
      have u3 := wr_mod a at0 hat
      obtain ⟨z, hz⟩ : ∃ z, z = at0 + r := ⟨_, rfl⟩
      obtain ⟨hi, hhi⟩ : ∃ hi, hi = at0 + l := ⟨_, rfl⟩
      obtain ⟨-, hatI, u5, q1, q20, q30, q4⟩ := piece_facts a r l at0 z hi hat hl hz hhi hrb
      clear hz hhi
      have HST2 := Lib.hid hstep
      have HI := Lib.hid (And.intro hpi (And.intro hi0 hat))
      have HLL := Lib.hid (And.intro hl (And.intro hl1 hl2))
      clear hstep hl hl1 hl2 hak hpi hHS hp2
      clear hi0 hat hd0
      go_wp2_with (first | go_skip | ((with_reducible show wpList _ _ _ _ _ (World.alloc _ _)); refine wpList_up hm ?_; clear hm; intro n w hn hn2 hk hm hd hd2 ho; (try rw [← hn]); replace hn := Nat.le_of_eq hn.symm) | ((first | ((with_reducible show wpList _ _ _ (Oper.mk _ (Op.box _ _) _ _ _ _ :: _) _ _); (refine bxA hm ?_; clear hm; intro n w hn hz hm ho; (try simp only [List.cons_append, List.nil_append] at hm))) | ((with_reducible show wpList _ _ _ (Oper.mk _ (Op.load _ _) _ _ _ _ :: _) _ _); first | (refine ldA hm ?_) | (refine laA hm ?_) | (refine lcA (RKJ.out _ (HC.out.resync hm).low) ?_) | (refine lrA (RKJ.out _ (HC.out.resync hm).low) ?_)) | ((with_reducible show wpList _ _ _ (Oper.mk _ (Op.store _ _ _) _ _ _ _ :: _) _ _); (refine stA hm ?_; clear hm; intro w hz hm ho)) | ((with_reducible show wpList _ _ _ (Oper.mk _ (Op.alloc _) _ _ _ _ :: _) _ _); (refine alA hm ?_; clear hm; intro n w hn hz hm ho; (try simp only [List.cons_append, List.nil_append] at hm)))); try simp only [Act.put, sxQ]))
      go_at_call 44
      refine (jp_Read ((HC.out.resync hm).obj 0 rfl) HL2.out (by omega) i0 (by have := HI.out; omega)).mono ?_
      rintro e w6 ⟨A6, m6, c6, rfl, ho6, hc6, hL6, hp6, hon6⟩
      have hc2 := (HC.out.resync hm).turned 0 rfl hon6 (fun q h => .inl h) hp6.sup ho6 (fun q hq e => by have := ((HC.out.resync hm).lt 0 rfl) q hq; have := (ho6.lt _ e).1; omega)
      have HL6 := Lib.hid hL6
      have hA6 : ∃ q6, A6 = some ⟨q6, 0, none⟩ := by
        obtain ⟨q6, _, e6, _⟩ := ho6.2.2.2 (by have := ho6.2.1; omega)
        exact ⟨q6, e6⟩
      obtain ⟨q6, rfl⟩ := hA6
      have hm6 : 48 ≤ m6 := ho6.2.1
      have hcl : (st.getD i0 []).length = 48 := HS.out i0 (by have := HI.out; omega)
      clear hL6 hon6 hp6 ho6
      clear HC hm
      simp only [List.nil_append, List.cons_append, List.set_cons_zero, List.set_cons_succ] at hc2
      have HC := Lib.hid hc2
      clear hc2
      have hm := HC.out.rebase
      have HB := Lib.hid (show Byt w6 w6.heap.size (some ⟨q6, 0, none⟩) 48 m6 (st.getD i0 []) from HC.out.byt 1 rfl)
      have hrow : Row w6 w6.heap.size (some ⟨q6, at0, none⟩) (bcells (((st.getD i0 []).drop at0).take l)) := by
        have h1 : Row w6 w6.heap.size (some ⟨q6, 0 + at0, none⟩) ((bcells (st.getD i0 [])).drop at0) := Row.drop HB.out.2.2 at0
        rw [Nat.zero_add] at h1
        have h2 := Row.take h1 l
        rw [bcells, List.map_take, List.map_drop]
        exact h2
      have hlen : (((st.getD i0 []).drop at0).take l).length = l := by
        rw [List.length_take, List.length_drop, hcl]; have := HLL.out; have := HI.out; omega
      go_upto_region 7 with (first | go_skip | ((with_reducible show wpList _ _ _ _ _ (World.alloc _ _)); refine wpList_up hm ?_; clear hm; intro n w hn hn2 hk hm hd hd2 ho; (try rw [← hn]); replace hn := Nat.le_of_eq hn.symm) | ((first | ((with_reducible show wpList _ _ _ (Oper.mk _ (Op.box _ _) _ _ _ _ :: _) _ _); (refine bxA hm ?_; clear hm; intro n w hn hz hm ho; (try simp only [List.cons_append, List.nil_append] at hm))) | ((with_reducible show wpList _ _ _ (Oper.mk _ (Op.load _ _) _ _ _ _ :: _) _ _); first | (refine ldA hm ?_) | (refine laA hm ?_) | (refine lcA (RKJ.out _ (HC.out.resync hm).low) ?_) | (refine lrA (RKJ.out _ (HC.out.resync hm).low) ?_)) | ((with_reducible show wpList _ _ _ (Oper.mk _ (Op.store _ _ _) _ _ _ _ :: _) _ _); (refine stA hm ?_; clear hm; intro w hz hm ho)) | ((with_reducible show wpList _ _ _ (Oper.mk _ (Op.alloc _) _ _ _ _ :: _) _ _); (refine alA hm ?_; clear hm; intro n w hn hz hm ho; (try simp only [List.cons_append, List.nil_append] at hm)))); try simp only [Act.put, sxQ]))
      simp only [hatI]
      clear hatI
      have q2 : hi ≤ m6 := Nat.le_trans q20 hm6
      have q3 : ¬ m6 = at0 := fun e => absurd (e ▸ hm6 : 48 ≤ at0) (Nat.not_le.2 q30)
      clear u1 u2 u3 hcl hm6 q20 q30
      go_upto_region 8 with fail
      go_wp2_with (first | ((with_reducible show wpList _ _ _ (Oper.mk _ (Op.call { callee := Callee.builtin Builtin.append, args := _, argTypes := _ }) _ _ _ _ :: _) _ _); refine wpList_apJ rfl (.tmp 43) (.tmp 44) rfl A k c _ rfl (HC.out.resync hm) 0 rfl (fun x hx q hq => by obtain rfl := List.mem_singleton.1 hx; exact hq ▸ HGJ.out) _ _ l _ _ rfl hrow hlen (by omega) ?_; clear hm; intro A2 c2 w2 hc2; clear HC; (try simp only [Act.put, sxQ]); simp only [List.nil_append, List.cons_append, List.set_cons_zero] at hc2; have HC := Lib.hid hc2; clear hc2; have hm := HC.out.rebase) | go_skip | ((with_reducible show wpList _ _ _ _ _ (World.alloc _ _)); refine wpList_up hm ?_; clear hm; intro n w hn hn2 hk hm hd hd2 ho; (try rw [← hn]); replace hn := Nat.le_of_eq hn.symm) | ((first | ((with_reducible show wpList _ _ _ (Oper.mk _ (Op.box _ _) _ _ _ _ :: _) _ _); (refine bxA hm ?_; clear hm; intro n w hn hz hm ho; (try simp only [List.cons_append, List.nil_append] at hm))) | ((with_reducible show wpList _ _ _ (Oper.mk _ (Op.load _ _) _ _ _ _ :: _) _ _); first | (refine ldA hm ?_) | (refine laA hm ?_) | (refine lcA (RKJ.out _ (HC.out.resync hm).low) ?_) | (refine lrA (RKJ.out _ (HC.out.resync hm).low) ?_)) | ((with_reducible show wpList _ _ _ (Oper.mk _ (Op.store _ _ _) _ _ _ _ :: _) _ _); (refine stA hm ?_; clear hm; intro w hz hm ho)) | ((with_reducible show wpList _ _ _ (Oper.mk _ (Op.alloc _) _ _ _ _ :: _) _ _); (refine alA hm ?_; clear hm; intro n w hn hz hm ho; (try simp only [List.cons_append, List.nil_append] at hm)))); try simp only [Act.put, sxQ]))
      have hll := HLL.out
      have hak := HAK.out
      have hab := HAB.out
      obtain ⟨s1, s2, s3, s4, s5, s6⟩ := round_facts off k a r l m0 j hak hkr hrg hll.1 hll.2.1 hll.2.2 hab
      go_roundg j
      case measure => exact Nat.lt_succ_self _
      case rel => exact ⟨k + l, a + l, r - l, A2, c2, cc + c6, s1, s2, s3, by rw [wr_add a l _ rfl s5], by rw [s6], rfl, by rw [← more_more]; exact HL6.out.mono (by have := hll.2.1; rw [Nat.mul_add, Nat.add_assoc]; exact Nat.add_le_add_left (Nat.add_le_add_left (Nat.le_mul_of_pos_right _ this) _) _), by rw [HST2.out, ← more_more]; exact (HC.out.resync hm).lastO 0 rfl⟩
end
end Go.Proofs.YtmhjddmamknglaaGreat
