/-
  The journal: a space in memory, and what its methods do.
-/
import Derived.Test.YtmhjddmamknglaaGreatZ0
import Derived.Test.YtmhjddmamknglaaGreatJpA
import Derived.Test.YtmhjddmamknglaaGreatZ4
namespace Go.Proofs.YtmhjddmamknglaaGreat
set_option maxRecDepth 100000
set_option linter.unusedSimpArgs false
set_option linter.unusedVariables false
open Go.RowKit
set_option maxHeartbeats 8000000

/-- Pages, and the journal on them. -/
structure Spc (u : World) (g gj : Nat) (G : Nat → Prop) (s : PgS) (p : Pg.P) : Prop where
  pat : PAt u g G s p
  jat : JAt u gj g
  ne : ¬ G gj
def spG (G : Nat → Prop) (gj : Nat) : Nat → Prop := fun q => G q ∨ q = gj
/-- What a method has done. -/
def SpR (w : World) (g gj : Nat) (G : Nat → Prop) (s : PgS) (R : Pg.P → Int → Prop) (e : Ending) (w' : World) : Prop :=
  ∃ p' G' s' er, e = .returned (.int .i64 er) ∧ Spc w' g gj G' s' p' ∧ R p' er ∧ (∀ q, spG G' gj q → spG G gj q ∨ w.heap.size ≤ q) ∧ Only (spG G gj) w w' ∧ s'.gm = s.gm
section
variable {w w' : World} {g gj B : Nat} {G G' : Nat → Prop} {s : PgS} {p : Pg.P} {st : List (List UInt8)} {q : Prop}
theorem Spc.sup (h : Spc w g gj G s p) : Sup w (spG G gj) (fun v => Spc v g gj G s p) :=
  ⟨h, fun q hq => hq.elim (h.pat.lt q) (fun e => e ▸ Blk.lt h.jat), fun R w' ho hd => ⟨h.pat.away ho (fun q hq => hd q (.inl hq)), Blk.only h.jat ho (hd gj (.inr rfl)), h.ne⟩⟩
theorem Spc.lt (h : Spc w g gj G s p) : gj < w.heap.size := Blk.lt h.jat
theorem JpR.sp {R : Pg.P → Int → Prop} (H : Spc w g gj G s p) {e : Ending} (h : JpR w g B G s q R e w') : SpR w g gj G s R e w' := by
  obtain ⟨p', G', s', er, he, h1, h2, h3, h4, h5⟩ := h
  exact ⟨p', G', s', er, he, ⟨h1, Blk.only H.jat h4 H.ne, fun hg => (h3 gj hg).elim H.ne (fun h => by have := H.lt; omega)⟩, h2, fun q hq => hq.elim (fun h => (h3 q h).imp .inl id) (fun e => .inl (.inr e)), h4.mono fun q _ h => .inl h, h5⟩
theorem sp_Apply (H : Spc w g gj G s p) (L : PL q B p st) (hB : B ≤ 700000000) (S : List UInt8) (hS : Jn.Good st S) (A : Option Addr) (m c : Nat) (l : List JC) (hc : Chs w w.heap.size A m c l) (hcd : ∀ q, chsG A m l q → ¬ spG G gj q)
    (hyo : ∀ y ∈ l, (-9223372036854775808 ≤ y.off ∧ y.off ≤ 9223372036854775807) ∧ y.n ≤ 9223372036854775807) (hw : JC.weight l ≤ 1000000000000) (hm47 : m ≤ 9223372036854775807) :
    Calls Tryz.prog 9 #[.pointer (some ⟨gj, 0, none⟩), .slice A m c] w (SpR w g gj G s (AplR q B (B + 10000000) st S l)) :=
  (jn_Apply H.jat H.ne H.pat L hB S hS A m c l hc (fun q hq hg => hcd q hq (.inl hg)) hyo hw hm47).mono fun _ _ h => JpR.sp H h
theorem sp_Read (H : Spc w g gj G s p) (L : PL q B p st) (off n0 : Int) (hB : B + 200000000 ≤ 900000000) :
    Calls Tryz.prog 20 #[.pointer (some ⟨gj, 0, none⟩), .int .i64 off, .int .i64 n0] w fun e w' =>
      ∃ A k m c, e = .returned (.tuple #[.slice A k m, .int .i64 (Jn.rread (Jn.flat st) off n0).2]) ∧ k = (Jn.rread (Jn.flat st) off n0).1.length ∧ Own w' w.heap.size 5 1 A k m (bcells (Jn.rread (Jn.flat st) off n0).1) ∧ Spc w' g gj G s (p.more c) ∧ PL q (B + 200000000) (p.more c) st ∧ Only (spG G gj) w w' :=
  (jn_Read H.jat H.ne H.pat L off n0 hB).mono fun e w' ⟨A, k, m, c, h1, h2, h3, h4, h5, h6⟩ => ⟨A, k, m, c, h1, h2, h3, ⟨h4, Blk.only H.jat h6 H.ne, H.ne⟩, h5, h6.mono fun q _ h => .inl h⟩
theorem sp_Cut (H : Spc w g gj G s p) (z : Int) : Calls Tryz.prog 11 #[.pointer (some ⟨s.gm, 0, none⟩), .int .i64 z] w fun e w' => e = .returned (.int .i64 (p.m.cut z).2) ∧ Spc w' g gj G s (p.wm (p.m.cut z).1) ∧ Only (spG G gj) w w' :=
  (page_Cut H.pat z).mono fun e w' ⟨h1, h2, h3⟩ => ⟨h1, ⟨h2, Blk.only H.jat h3 H.ne, H.ne⟩, h3.mono fun q _ h => .inl h⟩
theorem sp_Restore (H : Spc w g gj G s p) : Calls Tryz.prog 14 #[.pointer (some ⟨s.gm, 0, none⟩)] w fun e w' => e = .returned (.tuple #[]) ∧ Spc w' g gj G s (p.wm p.m.restore) ∧ Only (spG G gj) w w' :=
  (page_Restore H.pat).mono fun e w' ⟨h1, h2, h3⟩ => ⟨h1, ⟨h2, Blk.only H.jat h3 H.ne, H.ne⟩, h3.mono fun q _ h => .inl h⟩
end
/-- A space that was opened on a memory. -/
def OpsR (w0 : World) (M : Nat → Prop) (gm B : Nat) (st : List (List UInt8)) (S : List UInt8) (e : Ending) (w' : World) : Prop :=
  ∃ g gj G s p st', e = .returned (.tuple #[.agg #[.pointer (some ⟨gm, 0, none⟩), .pointer (some ⟨g, 0, none⟩), .pointer (some ⟨gj, 0, none⟩)], .bool true]) ∧ Spc w' g gj G s p ∧ s.gm = gm ∧ (∀ q, spG G gj q → M q ∨ w0.heap.size ≤ q) ∧ Only M w0 w' ∧ PL True B p st' ∧ Jn.Good st' S ∧ st'.length = st.length
section
variable {w0 : World} {gm gw gv n cw cv B : Nat} {m : Cel.Mem} {st : List (List UInt8)}
theorem law12_open (H : MemAt w0 gm gw gv n cw cv m) (hon : m.off = false) (hpe : m.pending = false) (hc : ∃ fr, Pg.Can B fr m st) (hB : B ≤ 600000000) (S : List UInt8) (hS : Jn.Meant st S) :
    Calls Tryz.prog 17 #[.pointer (some ⟨gm, 0, none⟩)] w0 (OpsR w0 (MemR gm gw gv) gm (B + 12000000) st S) := by
  obtain ⟨fr, hc⟩ := hc
  have HC := Lib.hid (Scn.start w0)
  have hm := HC.out.rebase
  have HOP := Lib.hid (fun (u : World) (hu : Below w0.heap.size w0 u) => page_Open_can (H.below hu) hon hc (by omega))
  have HPE := Lib.hid hpe
  have HS := Lib.hid hS
  have HMR := Lib.hid (show ∀ q, MemR gm gw gv q → q < w0.heap.size from H.sup.lt)
  clear H hon hpe hc hS
  go_enter Tryz.func17, Tryz.ntmps17
  go_wp2_with (first | go_skip | ((with_reducible show wpList _ _ _ _ _ (World.alloc _ _)); refine wpList_up hm ?_; clear hm; intro n w hn hn2 hk hm hd hd2 ho; (try rw [← hn]); replace hn := Nat.le_of_eq hn.symm) | ((first | ((with_reducible show wpList _ _ _ (Oper.mk _ (Op.box _ _) _ _ _ _ :: _) _ _); (refine bxA hm ?_; clear hm; intro n w hn hz hm ho; (try simp only [List.cons_append, List.nil_append] at hm))) | ((with_reducible show wpList _ _ _ (Oper.mk _ (Op.load _ _) _ _ _ _ :: _) _ _); first | (refine ldA hm ?_) | (refine laA hm ?_)) | ((with_reducible show wpList _ _ _ (Oper.mk _ (Op.store _ _ _) _ _ _ _ :: _) _ _); (refine stA hm ?_; clear hm; intro w hz hm ho)) | ((with_reducible show wpList _ _ _ (Oper.mk _ (Op.alloc _) _ _ _ _ :: _) _ _); (refine alA hm ?_; clear hm; intro n w hn hz hm ho; (try simp only [List.cons_append, List.nil_append] at hm)))); try simp only [Act.put, sxQ]))
  obtain ⟨n0, h9⟩ := hm.nm 0 rfl
  dsimp only at h9
  subst h9
  go_at_call 15
  refine (HOP.out _ (HC.out.resync hm).low).mono ?_
  rintro e w2 ⟨hb2, g, G, s, p, rfl, hL, hpm, hfx, hp, e1, e2, e3, e4, e5, e6, hG⟩
  have hb0 : Below w0.heap.size w0 w2 := (HC.out.resync hm).low.trans (hb2.mono (HC.out.resync hm).size)
  have hn0 : w0.heap.size ≤ n0 := (hm.own _ List.mem_cons_self).resolve_left (fun ⟨_, h, _⟩ => (by cases h))
  have hn2 : ¬ G n0 := fun hg => by
    have h1 : n0 < w.heap.size := hm.lt List.mem_cons_self
    have h2 := HMR.out
    rcases hG _ hg with h | h | h | h
    · have := h2 n0 (.inl h); omega
    · have := h2 n0 (.inr (.inl h)); omega
    · have := h2 n0 (.inr (.inr h)); omega
    · omega
  have hGM : ∀ q, G q → MemR gm gw gv q ∨ w0.heap.size ≤ q := fun q hq => by
    have := (HC.out.resync hm).size
    rcases hG q hq with h | h | h | h
    · exact .inl (.inl h)
    · exact .inl (.inr (.inl h))
    · exact .inl (.inr (.inr h))
    · exact .inr (by omega)
  have hk2 : Blk w2 n0 30 #[.pointer none, .pointer none, .pointer none] := (hm.below hb2).at_ 0 rfl
  clear hm HC
  have hm : Mem (fun q => q = n0) w2 w2 [⟨n0, _, _⟩] [] := Mem.one hk2 rfl
  have HP := Lib.hid hp
  have HL := Lib.hid (show PL True B p st from ⟨⟨fr, hL⟩, fun _ => by rw [hpm]; exact HPE.out⟩)
  have HK := Lib.hid (And.intro hb0 (And.intro hn0 (And.intro hn2 hGM)))
  have HE1 := Lib.hid e1
  clear hb0 hn0 hn2 hGM hk2 hp hL hpm hfx hb2 e1 e2 e3 e4 e5 e6 hG
  go_wp2_with (first | go_skip | ((with_reducible show wpList _ _ _ _ _ (World.alloc _ _)); refine wpList_up hm ?_; clear hm; intro n w hn hn2 hk hm hd hd2 ho; (try rw [← hn]); replace hn := Nat.le_of_eq hn.symm) | ((first | ((with_reducible show wpList _ _ _ (Oper.mk _ (Op.box _ _) _ _ _ _ :: _) _ _); (refine bxA hm ?_; clear hm; intro n w hn hz hm ho; (try simp only [List.cons_append, List.nil_append] at hm))) | ((with_reducible show wpList _ _ _ (Oper.mk _ (Op.load _ _) _ _ _ _ :: _) _ _); first | (refine ldA hm ?_) | (refine laA hm ?_)) | ((with_reducible show wpList _ _ _ (Oper.mk _ (Op.store _ _ _) _ _ _ _ :: _) _ _); (refine stA hm ?_; clear hm; intro w hz hm ho)) | ((with_reducible show wpList _ _ _ (Oper.mk _ (Op.alloc _) _ _ _ _ :: _) _ _); (refine alA hm ?_; clear hm; intro n w hn hz hm ho; (try simp only [List.cons_append, List.nil_append] at hm)))); try simp only [Act.put, sxQ]))
  go_at_call 16
  refine (jn_Open HP.out HL.out (by omega) S HS.out).mono ?_
  rintro e w3 ⟨p', G', s', hp3, hG3, ho3, hgm3, h⟩
  rcases h with ⟨gj, st', rfl, hj3, hgj, hne3, hL3, hS3, hl3⟩ | ⟨st', rfl, hD3, _, _⟩
  · have hk3 : Blk w3 n0 30 #[.pointer none, .pointer none, .pointer none] := Blk.only (hm.at_ 0 rfl) ho3 HK.out.2.2.1
    have hn3 : n0 < w2.heap.size := hm.lt List.mem_cons_self
    clear hm
    have hm : Mem (fun q => q = n0) w3 w3 [⟨n0, _, _⟩] [] := Mem.one hk3 rfl
    have HSP := Lib.hid (show Spc w3 g gj G' s' p' from ⟨hp3, hj3, hne3⟩)
    have HR := Lib.hid (And.intro hG3 (And.intro ho3 (And.intro hgm3 (And.intro hL3 (And.intro hS3 hl3)))))
    have HGJ := Lib.hid (And.intro hgj hn3)
    clear hp3 hG3 ho3 hgm3 hj3 hgj hne3 hL3 hS3 hl3 hk3 hn3
    go_wp2_with (first | go_skip | ((with_reducible show wpList _ _ _ _ _ (World.alloc _ _)); refine wpList_up hm ?_; clear hm; intro n w hn hn2 hk hm hd hd2 ho; (try rw [← hn]); replace hn := Nat.le_of_eq hn.symm) | ((first | ((with_reducible show wpList _ _ _ (Oper.mk _ (Op.box _ _) _ _ _ _ :: _) _ _); (refine bxA hm ?_; clear hm; intro n w hn hz hm ho; (try simp only [List.cons_append, List.nil_append] at hm))) | ((with_reducible show wpList _ _ _ (Oper.mk _ (Op.load _ _) _ _ _ _ :: _) _ _); first | (refine ldA hm ?_) | (refine laA hm ?_)) | ((with_reducible show wpList _ _ _ (Oper.mk _ (Op.store _ _ _) _ _ _ _ :: _) _ _); (refine stA hm ?_; clear hm; intro w hz hm ho)) | ((with_reducible show wpList _ _ _ (Oper.mk _ (Op.alloc _) _ _ _ _ :: _) _ _); (refine alA hm ?_; clear hm; intro n w hn hz hm ho; (try simp only [List.cons_append, List.nil_append] at hm)))); try simp only [Act.put, sxQ]))
    have hk := hm.at_ 0 rfl
    refine bodyPost_ret (results_row_tmp rfl _ w n0 30 _ _ _ rfl hk Tryz.underlying30 rfl (by kernel_rfl)) rfl ?_
    have ho : Only (fun q => q = n0) w3 w := hm.only
    have hnG : ¬ G' n0 := fun hg => (HR.out.1 n0 hg).elim HK.out.2.2.1 (fun h => by have := HGJ.out.2; omega)
    have hne : n0 ≠ gj := by have := HGJ.out; omega
    refine ⟨g, gj, G', s', p', st', rfl, HSP.out.sup.on _ w ho (fun q hq e => ?_), HR.out.2.2.1.trans HE1.out, fun q hq => ?_, ?_, HR.out.2.2.2.1, HR.out.2.2.2.2.1, HR.out.2.2.2.2.2⟩
    · have e : q = n0 := e
      rcases hq with hq | hq
      · exact hnG (e ▸ hq)
      · exact hne (e.symm.trans hq)
    · have := HK.out.1.size
      rcases hq with hq | hq
      · rcases HR.out.1 q hq with h | h
        · exact HK.out.2.2.2 q h
        · exact .inr (by omega)
      · exact .inr (by have := HGJ.out; omega)
    · exact ((Only.of_below HK.out.1).more HR.out.2.1 (fun q _ hq => HK.out.2.2.2 q hq)).more ho (fun q _ e => by have e : q = n0 := e; rw [e]; exact .inr HK.out.2.1)
  · exact absurd trivial hD3.not
end
theorem zeros_meant (n : Nat) : Jn.Meant (Pg.zeros n) (List.replicate (48 * (n / 24 - 32)) 0) := by
  by_cases h : n / 24 ≤ 32
  · exact .inl ⟨by simp [Pg.zeros]; omega, by rw [show n / 24 - 32 = 0 by omega]; rfl⟩
  · refine .inr (.inl ⟨⟨by simp [Pg.zeros]; omega, fun x hx => ?_⟩, ?_, ?_⟩)
    · rw [List.eq_of_mem_replicate hx]; rfl
    · have e : (Pg.zeros n).getD 0 [] = Pg.zero48 := by
        unfold Pg.zeros
        simp only [List.getD, List.getElem?_replicate]
        rw [if_pos (by omega)]; rfl
      unfold Jn.headOf
      rw [e]; decide
    · unfold Jn.flat Pg.zeros
      rw [List.drop_replicate]
      have e : Pg.zero48 = List.replicate 48 0 := rfl
      rw [e, List.flatten_replicate_replicate, Nat.mul_comm]
theorem law12_begin (n : Nat) (h1 : 240 ≤ n) (h2 : n ≤ 65536) (w0 : World) :
    Calls Tryz.prog 6 #[.int .i64 (n : Int)] w0 fun e w' => Below w0.heap.size w0 w' ∧ ∃ g gj G s p st, e = .returned (.tuple #[.agg #[.pointer (some ⟨s.gm, 0, none⟩), .pointer (some ⟨g, 0, none⟩), .pointer (some ⟨gj, 0, none⟩)], .bool true]) ∧ Spc w' g gj G s p ∧ (∀ q, spG G gj q → w0.heap.size ≤ q) ∧ PL True 13000000 p st ∧ Jn.Good st (List.replicate (48 * (n / 24 - 32)) 0) ∧ st.length = n / 24 := by
  have hm := Mem.nil (fun _ => False) w0
  have HN := Lib.hid (fun (u : World) => cell_New n 1073741824 u (by omega) h2 (by omega))
  have HCA := Lib.hid (Pg.new_can n h1 h2).1
  have hoff : (Cel.Mem.new n 1073741824).off = false := rfl
  have hpe : (Cel.Mem.new n 1073741824).pending = false := rfl
  clear h1 h2
  go_enter Tryz.func6, Tryz.ntmps6
  go_wp2_with (first | go_skip | ((with_reducible show wpList _ _ _ _ _ (World.alloc _ _)); refine wpList_up hm ?_; clear hm; intro n w hn hn2 hk hm hd hd2 ho; (try rw [← hn]); replace hn := Nat.le_of_eq hn.symm) | ((first | ((with_reducible show wpList _ _ _ (Oper.mk _ (Op.box _ _) _ _ _ _ :: _) _ _); (refine bxA hm ?_; clear hm; intro n w hn hz hm ho; (try simp only [List.cons_append, List.nil_append] at hm))) | ((with_reducible show wpList _ _ _ (Oper.mk _ (Op.load _ _) _ _ _ _ :: _) _ _); first | (refine ldA hm ?_) | (refine laA hm ?_)) | ((with_reducible show wpList _ _ _ (Oper.mk _ (Op.store _ _ _) _ _ _ _ :: _) _ _); (refine stA hm ?_; clear hm; intro w hz hm ho)) | ((with_reducible show wpList _ _ _ (Oper.mk _ (Op.alloc _) _ _ _ _ :: _) _ _); (refine alA hm ?_; clear hm; intro n w hn hz hm ho; (try simp only [List.cons_append, List.nil_append] at hm)))); try simp only [Act.put, sxQ]))
  obtain ⟨n0, h9⟩ := hm.nm 0 rfl
  dsimp only at h9
  subst h9
  go_at_call 23
  refine (HN.out _).mono ?_
  rintro e w1 ⟨gm, gw, gv, rfl, hmem, hg1, hg2, hg3, hb1⟩
  have hmr : ∀ q, MemR gm gw gv q → w.heap.size ≤ q := fun q hq => by rcases hq with rfl | rfl | rfl <;> assumption
  have hn0 : n0 < w.heap.size := hm.lt List.mem_cons_self
  have hz0w : w0.heap.size ≤ w.heap.size := hm.only.size
  replace hm := hm.below hb1
  go_wp2_with (first | go_skip | ((with_reducible show wpList _ _ _ _ _ (World.alloc _ _)); refine wpList_up hm ?_; clear hm; intro n w hn hn2 hk hm hd hd2 ho; (try rw [← hn]); replace hn := Nat.le_of_eq hn.symm) | ((first | ((with_reducible show wpList _ _ _ (Oper.mk _ (Op.box _ _) _ _ _ _ :: _) _ _); (refine bxA hm ?_; clear hm; intro n w hn hz hm ho; (try simp only [List.cons_append, List.nil_append] at hm))) | ((with_reducible show wpList _ _ _ (Oper.mk _ (Op.load _ _) _ _ _ _ :: _) _ _); first | (refine ldA hm ?_) | (refine laA hm ?_)) | ((with_reducible show wpList _ _ _ (Oper.mk _ (Op.store _ _ _) _ _ _ _ :: _) _ _); (refine stA hm ?_; clear hm; intro w hz hm ho)) | ((with_reducible show wpList _ _ _ (Oper.mk _ (Op.alloc _) _ _ _ _ :: _) _ _); (refine alA hm ?_; clear hm; intro n w hn hz hm ho; (try simp only [List.cons_append, List.nil_append] at hm)))); try simp only [Act.put, sxQ]))
  go_at_call 17
  refine (law12_open hmem hoff hpe ⟨_, HCA.out⟩ (by omega) _ (zeros_meant n)).mono ?_
  rintro e w2 ⟨g, gj, G, s, p, st', rfl, hsp, hgm, hG, ho, hL, hS, hlen⟩
  have hz := hm.only.size
  have hz0 := hb1.size
  replace hm := hm.step ho (fun q _ hq => .inr (by have h1 := hmr q hq; have : w0.heap.size ≤ w.heap.size := hz0w; omega)) (fun e he hq => by obtain rfl := List.mem_singleton.1 he; have h1 : w.heap.size ≤ n0 := hmr _ hq; omega) (fun x hx => by cases hx)
  have HSP := Lib.hid hsp
  have HR := Lib.hid (And.intro (show ∀ q, spG G gj q → w0.heap.size ≤ q ∧ q ≠ n0 from fun q hq => by
    rcases hG q hq with h | h
    · have := hmr q h; omega
    · omega) (And.intro hL (And.intro hS hlen)))
  subst hgm
  clear hsp hG ho hL hS hlen hmr hmem hg1 hg2 hg3 hb1
  go_wp2_with (first | go_skip | ((with_reducible show wpList _ _ _ _ _ (World.alloc _ _)); refine wpList_up hm ?_; clear hm; intro n w hn hn2 hk hm hd hd2 ho; (try rw [← hn]); replace hn := Nat.le_of_eq hn.symm) | ((first | ((with_reducible show wpList _ _ _ (Oper.mk _ (Op.box _ _) _ _ _ _ :: _) _ _); (refine bxA hm ?_; clear hm; intro n w hn hz hm ho; (try simp only [List.cons_append, List.nil_append] at hm))) | ((with_reducible show wpList _ _ _ (Oper.mk _ (Op.load _ _) _ _ _ _ :: _) _ _); first | (refine ldA hm ?_) | (refine laA hm ?_)) | ((with_reducible show wpList _ _ _ (Oper.mk _ (Op.store _ _ _) _ _ _ _ :: _) _ _); (refine stA hm ?_; clear hm; intro w hz hm ho)) | ((with_reducible show wpList _ _ _ (Oper.mk _ (Op.alloc _) _ _ _ _ :: _) _ _); (refine alA hm ?_; clear hm; intro n w hn hz hm ho; (try simp only [List.cons_append, List.nil_append] at hm)))); try simp only [Act.put, sxQ]))
  have hk := hm.at_ 0 rfl
  refine bodyPost_ret (results_row_tmp rfl _ w n0 30 _ _ _ rfl hk Tryz.underlying30 rfl (by kernel_rfl)) rfl ?_
  exact ⟨hm.low, g, gj, G, s, p, st', rfl, HSP.out.sup.on _ w ho (fun q hq e => (HR.out.1 q hq).2 e), fun q hq => (HR.out.1 q hq).1, HR.out.2.1.mono (by omega), HR.out.2.2.1, HR.out.2.2.2.trans (by simp [Pg.zeros])⟩
end Go.Proofs.YtmhjddmamknglaaGreat
