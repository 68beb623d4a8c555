/-
  The walk of place: a page into a free frame.
-/
import Derived.Test.YtnlhammgcemchaaZ0
import Derived.Test.YtnlhammgcemchaaPgQ
namespace Go.Proofs.Ytnlhammgcemchaa
set_option maxRecDepth 100000
set_option linter.unusedSimpArgs false
set_option linter.unusedVariables false
open Go.RowKit
set_option maxHeartbeats 8000000

theorem slices_CloneN (A : Option Addr) (n c : Nat) (l : List Nat) (w : World) (h : Nrow w w.heap.size A n c l) (h0 : 0 < n) (hn : n ≤ 65536) :
    Calls Try.prog 53 #[.slice A n c] w fun e w' => ∃ A2 c2, e = .returned (.slice A2 n c2) ∧ Own w' w.heap.size 3 1 A2 n c2 (ncells l) ∧ Below w.heap.size w w' := by
  obtain ⟨iu, hiu, hu0, hu1, hu2⟩ := info_parts i_int'
  obtain ⟨g, o, rfl, _, _⟩ := h.at_ h0
  have hu : ∀ u : World, (binOp .eql 63 (.slice (some ⟨g, o, none⟩) n c) (.slice none 0 0)).run Try.prog u = .ok (.bool false) u := fun u => by
    have := Lib.run_eql_slice_nil u 63 3 (some ⟨g, o, none⟩) n c 0 0 Try.underlying63
    exact this
  go_enter Try.func53, Try.ntmps53
  have hb1 := (Below.refl w.heap.size w).alloc (Nat.le_refl _) (.cells #[] 3)
  have hown : Own (w.alloc (.cells #[] 3)) w.heap.size 3 1 (some ⟨w.heap.size, 0, none⟩) 0 0 [] := Own.none_ _ _ _ _ _
  go_wp2_with (at_builtin; refine wpList_append _ rfl (.tmp 5) (.tmp 6) 63 rfl w.heap.size 3 iu _ 1 8 Try.underlying63 hiu hu0 hu1 hu2 rfl (by omega) (some ⟨w.heap.size, 0, none⟩) 0 0 _ rfl hown w.heap.size (some ⟨g, o, none⟩) n c (ncells l) rfl (h.2.2.below hb1) (by rw [ncells_length, h.1]; omega) (ncells_one _) (by unfold maxLen; omega) (by omega) (by simp) ?_; intro A4 c4 w4 hown4 hg4 hat4)
  go_ret
  exact ⟨_, _, by simp; exact ⟨rfl, rfl⟩, by simpa using hown4, hown.grown hg4 hb1 (by simp)⟩
theorem or3 (a b c : Nat) (ha : a < 256) (hb : b < 256) (hc : c < 256) : bits BinOp.or IntKind.i64 (bits BinOp.or IntKind.i64 ((a : Int) * 65536) ((b : Int) * 256)) (c : Int) = ((a * 65536 + b * 256 + c : Nat) : Int) := by
  have e1 : (a : Int) * 65536 = ((a * 65536 : Nat) : Int) := by omega
  have e2 : (b : Int) * 256 = ((b * 256 : Nat) : Int) := by omega
  rw [e1, e2, i64_or_nat _ _ (by omega) (by omega)]
  have h1 := Nat.two_pow_add_eq_or_of_lt (i := 16) (b := b * 256) (by omega) a
  simp only [Nat.reducePow] at h1
  have h3 : a * 65536 ||| b * 256 = 65536 * a + b * 256 := by rw [h1, Nat.mul_comm]
  rw [h3, i64_or_nat _ _ (by omega) (by omega)]
  have h2 := Nat.two_pow_add_eq_or_of_lt (i := 8) (b := c) (by omega) (a * 256 + b)
  simp only [Nat.reducePow] at h2
  rw [show 65536 * a + b * 256 = 256 * (a * 256 + b) by omega, ← h2]
  congr 1
  omega
def wordAt (b : List UInt8) (k : Nat) : Nat := (b.getD (3 * k) 0).toNat * 65536 + (b.getD (3 * k + 1) 0).toNat * 256 + (b.getD (3 * k + 2) 0).toNat
theorem words_take (b : List UInt8) (k : Nat) (hk : k < 16) : (Pg.words b).take (k + 1) = (Pg.words b).take k ++ [wordAt b k] := by
  have hl : k < (Pg.words b).length := by rw [Pg.words_length]; exact hk
  rw [List.take_succ_eq_append_getElem hl]
  simp [Pg.words, wordAt]
theorem Byt.cellAt {w : World} {B : Nat} {A : Option Addr} {n c : Nat} {bs : List UInt8} (h : Byt w B A n c bs) {b o : Nat} (e : A = some ⟨b, o, none⟩) {k : Nat} (hk : k < n) : w.cell? ⟨b, o + k, none⟩ = some (.int .u8 ((bs.getD k 0).toNat : Int)) := by
  subst e
  have hk2 : k < bs.length := by rw [h.1]; exact hk
  rw [h.2.2.byte k hk2]
section
variable {P : Program} {ops : Array Oper} {o : Oper} {a : Act} {w s : World} {K : Act → World → Prop} {Q : Exit → Act → World → Prop} {E : Prop} {R : Nat → Prop} {L : List Ent} {O : List Osl}
/-- An append as a step of a region that draws its order. -/
theorem step_ap (hw : Region.wanted o (yielded ops a.tmps) = true) (x y : Operand) (t : TypeId)
    (ho : o.op = .call { callee := .builtin .append, args := #[x, y], argTypes := #[t, t] }) (e : TypeId) (i : TypeInfo) (z : Value) (s' bytes : Nat) (ht : P.underlying t = some (.slice e)) (hi : P.info? e = some i) (hz : i.zero = some z)
    (hsize : i.size = s') (hby : i.bytes = bytes) (hzs : z.cells.size = s') (hsz : 0 < s')
    (A : Option Addr) (n c : Nat) (cs : List Value) (hx : a.eval x = .slice A n c) (hm : Mem R s w L O) (k : Nat) (hk : O[k]? = some ⟨e, s', A, n, c, cs⟩)
    (B : Nat) (A' : Option Addr) (m c' : Nat) (news : List Value) (hy : a.eval y = .slice A' m c') (hr : Row w B A' news) (hl : news.length = m * s') (h1 : ∀ u ∈ news, u.oneCell' = true)
    (h63 : n + m ≤ maxLen) (hbytes : (n + m) * bytes ≤ 140737488355328)
    (h : ∀ A2 c2 w1, Mem R s w1 L (O.set k ⟨e, s', A2, n + m, c2, cs ++ news⟩) → Only (fun q => ownAt A c = some q) w w1 → (ownAt A2 c2 = ownAt A c ∨ ∃ q, ownAt A2 c2 = some q ∧ w.heap.size ≤ q) → K (a.put o.dst (.slice A2 (n + m) c2)) w1) :
    if Region.wanted o (yielded ops a.tmps) = true then Oper.wp P o a w K Q else E := by
  rw [if_pos hw]
  refine wp_append w x y t ho 0 e i z s' bytes ht hi hz hsize hby hzs hsz A n c cs hx (hm.sl_ k hk) B A' m c' news hy hr hl h1 h63 hbytes (Nat.zero_le _) ?_
  intro A2 c2 w2 h2 h3 h4
  have ho2 : Only (fun q => ownAt A c = some q) w w2 := (Only.refl _ _).grown h3 (fun k e => e)
  exact h A2 c2 w2 (hm.app k hk h2 ho2 h4) ho2 (h4.imp_right fun e => ⟨_, e, Nat.le_refl _⟩)
end
theorem Nrow.far {w w' : World} {R : Nat → Prop} {A : Option Addr} {n c : Nat} {l : List Nat} (h : Nrow w w.heap.size A n c l) (ho : Only R w w') (hd : ∀ a, A = some a → ¬ R a.block) : Nrow w' w'.heap.size A n c l := ⟨h.1, h.2.1, Row.only (B := 0) h.2.2 ho hd⟩
/-- What place needs. -/
structure PlOk (p : Pg.P) (i : Nat) (K : Int) : Prop where
  hi : i < p.at_.length
  hi24 : i < 16777216
  f2 : 2 ≤ p.freed.length
  fl : p.freed.length ≤ 65000
  ff : p.freed.getD 0 0 < p.holds.length
  hl : p.holds.length < 65536
  ho : ∀ f, p.at_.getD i none = some f → f < p.holds.length
  ver : p.version + 1 < 281474976710656
  fine : Cel.Fine K p.m
  hK : 0 ≤ K ∧ K + 100 ≤ 4611686018427387904
/-- Where the memory of pages lies. -/
def PgS.mm (s : PgS) : Nat × Nat × Nat × Nat × Nat × Nat := (s.gm, s.gw, s.gv, s.n, s.cw, s.cv)
def PlRes (w : World) (g : Nat) (G : Nat → Prop) (s : PgS) (r : Pg.P × Int) (e : Ending) (w' : World) : Prop :=
  e = .returned (.int .i64 r.2) ∧ ∃ G' s', PAt w' g G' s' r.1 ∧ (∀ q, G' q → G q ∨ w.heap.size ≤ q) ∧ Only G w w' ∧ s'.mm = s.mm
theorem wordAt_lt (b : List UInt8) (k : Nat) : wordAt b k < 16777216 := by
  have l0 := (b.getD (3 * k) 0).toNat_lt
  have l1 := (b.getD (3 * k + 1) 0).toNat_lt
  have l2 := (b.getD (3 * k + 2) 0).toNat_lt
  unfold wordAt
  omega
theorem frameWords_lt (i v : Nat) (b : List UInt8) (hi : i < 16777216) (hv : v < 281474976710656) : ∀ x ∈ Pg.frameWords i v b, x < 16777216 := by
  intro x hx
  unfold Pg.frameWords at hx
  rcases List.mem_append.1 hx with h | h
  · unfold Pg.words at h
    obtain ⟨k, _, rfl⟩ := List.mem_map.1 h
    exact wordAt_lt b k
  · simp only [List.mem_cons, List.not_mem_nil, or_false] at h
    rcases h with rfl | rfl | rfl
    · exact hi
    · omega
    · omega
def full (W : List Nat) : List Nat := [0] ++ W ++ [Pg.sealOf W]
def posAt (k : Nat) : Nat := if k = 0 then 19 else k - 1
theorem plan_eq (W : List Nat) (h : W.length = 19) : Pg.plan W = (List.range 21).map fun k => (posAt k, (full W).getD k 0) := by
  unfold Pg.plan full
  rw [h]
  generalize Pg.sealOf W = z
  apply List.ext_getElem
  · simp
  · intro k h1 h2
    have hk : k < 21 := by simpa using h2
    simp only [List.getElem_map, List.getElem_range]
    rcases Nat.eq_zero_or_pos k with rfl | h0
    · simp [posAt, List.getD]
    · obtain ⟨j, rfl⟩ : ∃ j, k = j + 1 := ⟨k - 1, by omega⟩
      simp only [List.cons_append, List.getElem_cons_succ, posAt, List.getD, List.nil_append, List.getElem?_cons_succ]
      rw [if_neg (by omega)]
      by_cases hj : j < 19
      · rw [List.getElem_append_left (by simpa using hj)]
        simp [List.getElem?_append_left, h, hj]
      · obtain rfl : j = 19 := by omega
        simp [h]
theorem put_next (f : Nat) (W : List Nat) (h : W.length = 19) (k : Nat) (hk : k < 21) (m : Cel.Mem) : Pg.put f ((Pg.plan W).drop k) m =
    if (m.write (f * 20 + posAt k : Nat) (UInt32.ofNat (Ecc.code ((full W).getD k 0)))).2 ≠ 0 then m.write (f * 20 + posAt k : Nat) (UInt32.ofNat (Ecc.code ((full W).getD k 0)))
    else Pg.put f ((Pg.plan W).drop (k + 1)) (m.write (f * 20 + posAt k : Nat) (UInt32.ofNat (Ecc.code ((full W).getD k 0)))).1 := by
  have hl : (Pg.plan W).length = 21 := by rw [plan_eq W h]; simp
  rw [List.drop_eq_getElem_cons (by omega)]
  have e : (Pg.plan W)[k] = (posAt k, (full W).getD k 0) := by simp only [plan_eq W h, List.getElem_map, List.getElem_range]
  rw [e]
  rfl
theorem full_length (W : List Nat) (h : W.length = 19) : (full W).length = 21 := by simp [full, h]
theorem sealOf_lt (l : List Nat) : Pg.sealOf l < 16777216 := by
  have h := sealK_lt l 5904323 (by omega)
  unfold Pg.sealOf
  generalize Pg.sealK l 5904323 = z at *
  have := Nat.or_lt_two_pow (x := z) (y := 1) (n := 24) (by omega) (by omega)
  omega
theorem full_lt (W : List Nat) (h : ∀ x ∈ W, x < 16777216) : ∀ k, (full W).getD k 0 < 16777216 := by
  intro k
  rw [List.getD]
  cases e : (full W)[k]? with
  | none => show 0 < _; omega
  | some x =>
    have hx := List.mem_of_getElem? e
    unfold full at hx
    rcases List.mem_append.1 hx with h1 | h1
    · rcases List.mem_append.1 h1 with h2 | h2
      · obtain rfl := List.mem_singleton.1 h2; show 0 < _; omega
      · exact h x h2
    · obtain rfl := List.mem_singleton.1 h1; exact sealOf_lt W
theorem enc_code (x : Nat) (h : x < 16777216) : (encW (x : Int) : Int) = ((UInt32.ofNat (Ecc.code x)).toNat : Int) ∧ encE (x : Int) = 0 := by
  unfold encW encE
  rw [if_pos ⟨by omega, by omega⟩, if_pos ⟨by omega, by omega⟩]
  refine ⟨?_, rfl⟩
  have := Ecc.code_lt x
  simp
  omega
theorem spl_cells (l : List (Option Nat)) (r : List Value) (i : Nat) (hi : i < l.length) (v : Option Nat) : spl (ecells l ++ r).toArray i #[Value.int .i64 (Pg.enc v)] = (ecells (l.set i v) ++ r).toArray := by
  unfold spl
  congr 1
  simp only [List.toList_toArray, List.size_toArray, List.length_cons, List.length_nil, Nat.zero_add]
  have h1 : i < (ecells l ++ r).length := by simp [ecells]; omega
  have h2 : (ecells l ++ r).set i (Value.int .i64 (Pg.enc v)) = (ecells l ++ r).take i ++ [Value.int .i64 (Pg.enc v)] ++ (ecells l ++ r).drop (i + 1) := by
    rw [List.set_eq_take_append_cons_drop, if_pos h1]; simp
  rw [← h2, List.set_append, if_pos (by simpa [ecells] using hi)]
  simp [ecells, List.map_set, I64]
theorem cells_at (l : List (Option Nat)) (r : List Value) (i : Nat) (hi : i < l.length) {u : World} {A : Nat} {t : TypeId} (h : Blk u A t (ecells l ++ r).toArray) : u.cell? ⟨A, i, none⟩ = some (.int .i64 (Pg.enc (l.getD i none))) := by
  rw [h.cell]; simp [ecells, List.getD, List.getElem?_append_left, hi, I64]
theorem PAt.mem3 {w : World} {g : Nat} {G : Nat → Prop} {s : PgS} {p : Pg.P} (H : PAt w g G s p) : Mem (fun q => q = g ∨ q = s.A ∨ q = s.Ho) w w [⟨g, 69, pcs s p⟩, ⟨s.A, 3, (ecells p.at_ ++ s.ra).toArray⟩, ⟨s.Ho, 3, (ecells p.holds ++ s.rh).toArray⟩] [] := by
  have ne := H.ne
  simp only [List.nodup_cons, List.mem_cons, List.not_mem_nil, or_false, not_or] at ne
  obtain ⟨⟨n1, n2, n3, n4, n5⟩, ⟨n6, n7, n8, n9⟩, ⟨n10, n11, n12⟩, ⟨n13, n14⟩, n15, _⟩ := ne
  refine (((Mem.nil _ w).cons H.holds (.inl (.inr (.inr rfl))) (fun e he => by cases he) (fun x hx => by cases hx)).cons H.at_ (.inl (.inr (.inl rfl))) (fun e he => ?_) (fun x hx => by cases hx)).cons H.blk (.inl (.inl rfl)) (fun e he => ?_) (fun x hx => by cases hx)
  · obtain rfl := List.mem_singleton.1 he; exact n15
  · simp only [List.mem_cons, List.not_mem_nil, or_false] at he
    rcases he with rfl | rfl
    · exact n4
    · exact n5
theorem PAt.rebuilt {w w' : World} {g : Nat} {G : Nat → Prop} {s : PgS} {p q : Pg.P} (H : PAt w g G s p) (ho : Only (fun k => k = g ∨ k = s.A ∨ k = s.Ho) w w') (F' : Option Addr) (cf' : Nat) (hb : Blk w' g 69 (pcs { s with F := F', cf := cf' } q))
    (hA : Blk w' s.A 3 (ecells q.at_ ++ s.ra).toArray) (hH : Blk w' s.Ho 3 (ecells q.holds ++ s.rh).toArray) (hm : q.m = p.m) (hF : Row w' w'.heap.size F' (ncells q.freed)) (hcap : q.freed.length ≤ cf')
    (hin : ∀ a, F' = some a → (G a.block ∨ w.heap.size ≤ a.block) ∧ a.block < w'.heap.size ∧ a.block ∉ [g, s.gm, s.gw, s.gv, s.A, s.Ho]) : PAt w' g (fun k => G k ∨ (w.heap.size ≤ k ∧ k < w'.heap.size)) { s with F := F', cf := cf' } q := by
  have ne := H.ne
  simp only [List.nodup_cons, List.mem_cons, List.not_mem_nil, or_false, not_or] at ne
  obtain ⟨⟨n1, n2, n3, n4, n5⟩, ⟨n6, n7, n8, n9⟩, ⟨n10, n11, n12⟩, ⟨n13, n14⟩, n15, _⟩ := ne
  refine { blk := hb, mem := ?_, at_ := hA, holds := hH, freed := hF, cap := hcap, hg := fun k hk => .inl (H.hg k hk), hF := fun a e => ?_, ne := H.ne, nF := fun a e => (hin a e).2.2, lt := fun k hk => ?_ }
  · rw [hm]
    exact H.mem.only ho (by rintro (h | h | h) <;> simp_all) (by rintro (h | h | h) <;> simp_all) (by rintro (h | h | h) <;> simp_all)
  · rcases (hin a e).1 with h | h
    · exact .inl h
    · exact .inr ⟨h, (hin a e).2.1⟩
  · rcases hk with h | h
    · exact Nat.lt_of_lt_of_le (H.lt k h) ho.size
    · exact h.2
theorem moved_none {p : Pg.P} {i : Nat} (h : p.at_.getD i none = none) (f : Nat) (m : Cel.Mem) : p.moved i f m = { p with m := m, version := p.version + 1, freed := p.freed.drop 1, holds := p.holds.set f (some i), at_ := p.at_.set i (some f) } := by
  unfold Pg.P.moved; rw [h]; simp
theorem moved_some {p : Pg.P} {i old : Nat} (h : p.at_.getD i none = some old) (f : Nat) (m : Cel.Mem) : p.moved i f m = { p with m := m, version := p.version + 1, freed := p.freed.drop 1 ++ [old], holds := (p.holds.set old none).set f (some i), at_ := p.at_.set i (some f) } := by
  unfold Pg.P.moved; rw [h]; rfl
theorem page_place {w0 : World} {g : Nat} {G : Nat → Prop} {s : PgS} {p : Pg.P} (H : PAt w0 g G s p) (i : Nat) {K : Int} (hok : PlOk p i K) (B0 : Option Addr) (cb : Nat) (b : List UInt8) (hb : Byt w0 w0.heap.size B0 48 cb b) :
    Calls Try.prog 40 #[.pointer (some ⟨g, 0, none⟩), .int .i64 (i : Int), .slice B0 48 cb] w0 (PlRes w0 g G s (p.place i b)) := by
  obtain ⟨ti, hi0, hz0, hz1, hz2⟩ := info_parts i_int'
  have hm : Mem (fun q => q = g) w0 w0 [⟨g, _, _⟩] [] := Mem.one H.blk rfl
  have HK := Lib.hid H.blk
  have HH := Lib.hid H
  have HOK := Lib.hid hok
  have HB := Lib.hid hb
  have hg : g < w0.heap.size := H.lt g (H.hg g (by simp))
  have hf2 := hok.f2
  have hver := hok.ver
  obtain ⟨bF, oF, eF, hbF, cF⟩ := (show Nrow w0 w0.heap.size s.F p.freed.length s.cf p.freed from ⟨rfl, H.cap, H.freed⟩).at_ (k := 0) (by omega)
  rw [Nat.add_zero] at cF
  obtain ⟨bb, ob, rfl, hbb⟩ := hb.at_ (by omega)
  clear H hok hb
  simp only [pcs] at hm HK
  rw [eF] at hm HK
  generalize hf : p.freed.getD 0 0 = f at *
  have HF := Lib.hid hf
  clear hf
  go_enter Try.func40, Try.ntmps40
  go_wp2_with (first | go_skip | ((with_reducible show wpList _ _ _ _ _ (World.alloc _ _)); refine wpList_up hm ?_; clear hm; intro n w hn hn2 hk hm hd hd2 ho; (try rw [← hn]); replace hn := Nat.le_of_eq hn.symm) | ((first | ((with_reducible show wpList _ _ _ (Oper.mk _ (Op.box _ _) _ _ _ _ :: _) _ _); (refine bxA hm ?_; clear hm; intro n w hn hz hm ho; (try simp only [List.cons_append, List.nil_append] at hm))) | ((with_reducible show wpList _ _ _ (Oper.mk _ (Op.load _ _) _ _ _ _ :: _) _ _); first | (refine ldA hm ?_) | (refine laA hm ?_)) | ((with_reducible show wpList _ _ _ (Oper.mk _ (Op.store _ _ _) _ _ _ _ :: _) _ _); (refine stA hm ?_; clear hm; intro w hz hm ho)) | ((with_reducible show wpList _ _ _ (Oper.mk _ (Op.alloc _) _ _ _ _ :: _) _ _); (refine alA hm ?_; clear hm; intro n w hn hz hm ho; (try simp only [List.cons_append, List.nil_append] at hm)))); try simp only [Act.put, sxQ]))
  go_loopg [9, 10] 16 (fun g2 v j wr => ∃ (k : Nat) (A2 : Option Addr) (c2 : Nat), k + g2 = 16 ∧ j = .int .i64 (3 * (k : Int)) ∧ v = .slice A2 k c2 ∧ Mem (fun _ => False) w0 wr [] [⟨3, 1, A2, k, c2, ncells ((Pg.words b).take k)⟩])
  case atStart => exact ⟨0, none, 0, by omega, rfl, rfl, (Mem.nil _ _).empty _ _ _⟩
  case round =>
    clear hm cF
    obtain ⟨k, A2, c2, hkg, rfl, rfl, hm⟩ := hrel
    cases gk with
    | zero =>
      obtain rfl : k = 16 := by omega
      have e16 : (Pg.words b).take 16 = Pg.words b := List.take_of_length_le (by rw [Pg.words_length]; omega)
      rw [e16] at hm
      have hv0 : ((p.version : Int) + 1) = ((p.version + 1 : Nat) : Int) := by omega
      have hA := and_low24 (p.version + 1) (by omega)
      rw [← hv0] at hA
      have hD : ((p.version : Int) + 1) / 16777216 = (((p.version + 1) / 16777216 : Nat) : Int) := by omega
      have HWF := Lib.hid (show ncells (Pg.words b) ++ ncells [i, (p.version + 1) / 16777216, (p.version + 1) % 16777216] = ncells (Pg.frameWords i (p.version + 1) b) by rw [← ncells_append]; rfl)
      have hlW : (Pg.frameWords i (p.version + 1) b).length = 19 := by simp [Pg.frameWords, Pg.words_length]
      clear e16 hv0
      have HA := Lib.hid hA
      have HD := Lib.hid hD
      clear hA hD
      go_wp2_with (first | go_skip | ((with_reducible show wpList _ _ _ _ _ (World.alloc _ _)); refine wpList_up hm ?_; clear hm; intro n w hn hn2 hk hm hd hd2 ho; (try rw [← hn]); replace hn := Nat.le_of_eq hn.symm) | ((first | ((with_reducible show wpList _ _ _ (Oper.mk _ (Op.box _ _) _ _ _ _ :: _) _ _); (refine bxA hm ?_; clear hm; intro n w hn hz hm ho; (try simp only [List.cons_append, List.nil_append] at hm))) | ((with_reducible show wpList _ _ _ (Oper.mk _ (Op.load _ _) _ _ _ _ :: _) _ _); first | (refine ldA hm ?_) | (refine laA hm ?_)) | ((with_reducible show wpList _ _ _ (Oper.mk _ (Op.store _ _ _) _ _ _ _ :: _) _ _); (refine stA hm ?_; clear hm; intro w hz hm ho)) | ((with_reducible show wpList _ _ _ (Oper.mk _ (Op.alloc _) _ _ _ _ :: _) _ _); (refine alA hm ?_; clear hm; intro n w hn hz hm ho; (try simp only [List.cons_append, List.nil_append] at hm)))); try simp only [Act.put, sxQ]) | ((with_reducible show wpList _ _ _ (Oper.mk _ (Op.call { callee := Callee.builtin Builtin.append, args := #[Operand.tmp 60, Operand.tmp 66], argTypes := _ }) _ _ _ _ :: _) _ _); refine wpList_ap (by rfl) (.tmp 60) (.tmp 66) 63 rfl 3 ti _ 1 8 Try.underlying63 hi0 hz0 hz1 hz2 rfl (by omega) A2 16 c2 _ rfl hm 0 rfl _ (some ⟨_, 0, none⟩) 3 3 (ncells [i, (p.version + 1) / 16777216, (p.version + 1) % 16777216]) rfl (by have := hk.row; rw [HA.out, HD.out] at this; exact this) (by simp [ncells]) (ncells_one _) (by unfold maxLen; omega) (by omega) ?_; clear hm; intro A3 c3 w hm ho9 hat; (try simp only [Act.put, sxQ]); simp only [List.set_cons_zero, HWF.out] at hm) | ((with_reducible show wpList _ _ _ (Oper.mk _ (Op.call { callee := Callee.builtin Builtin.append, args := #[Operand.tmp 68, Operand.tmp 69], argTypes := _ }) _ _ _ _ :: _) _ _); refine wpList_ap (by rfl) (.tmp 68) (.tmp 69) 63 rfl 3 ti _ 1 8 Try.underlying63 hi0 hz0 hz1 hz2 rfl (by omega) (some ⟨_, 0, none⟩) 1 1 (ncells [0]) rfl (hm.row hk hn2 hd hd2 1 1 (ncells [0]) rfl rfl (by unfold maxLen; omega)) 1 rfl _ _ 19 _ (ncells (Pg.frameWords i (p.version + 1) b)) rfl (hm.sl_ 0 rfl).row (by rw [ncells_length, hlW]) (ncells_one _) (by unfold maxLen; omega) (by omega) ?_; clear hm; intro A4 c4 w hm ho9 hat; (try simp only [Act.put, sxQ]); simp only [List.set_cons_zero, List.set_cons_succ, List.cons_append, List.nil_append] at hm; simp only [← ncells_append] at hm) | (go_at_call 50; refine (page_seal _ 19 _ (Pg.frameWords i (p.version + 1) b) _ ((hm.sl_ 0 rfl).nrow) (frameWords_lt _ _ _ HOK.out.hi24 HOK.out.ver) (by omega)).mono ?_; rintro e w8 ⟨rfl, rfl⟩) | ((with_reducible show wpList _ _ _ (Oper.mk _ (Op.call { callee := Callee.builtin Builtin.append, args := #[Operand.tmp 71, Operand.tmp 74], argTypes := _ }) _ _ _ _ :: _) _ _); refine wpList_ap (by rfl) (.tmp 71) (.tmp 74) 63 rfl 3 ti _ 1 8 Try.underlying63 hi0 hz0 hz1 hz2 rfl (by omega) _ 20 _ _ rfl hm 1 rfl _ (some ⟨_, 0, none⟩) 1 1 (ncells [Pg.sealOf (Pg.frameWords i (p.version + 1) b)]) rfl hk.row (by simp [ncells]) (ncells_one _) (by unfold maxLen; omega) (by omega) ?_; clear hm; intro A5 c5 w hm ho9 hat; (try simp only [Act.put, sxQ]); simp only [List.set_cons_zero, List.set_cons_succ, List.cons_append, List.nil_append] at hm; simp only [← ncells_append] at hm))
      have hL : ncells (full (Pg.frameWords i (p.version + 1) b)) = ncells (0 :: Pg.frameWords i (p.version + 1) b ++ [Pg.sealOf (Pg.frameWords i (p.version + 1) b)]) := rfl
      have hP := Lib.hid (show p.place i b = if (Pg.put f (Pg.plan (Pg.frameWords i (p.version + 1) b)) p.m).2 ≠ 0 then ({ p with m := (Pg.put f (Pg.plan (Pg.frameWords i (p.version + 1) b)) p.m).1 }, (Pg.put f (Pg.plan (Pg.frameWords i (p.version + 1) b)) p.m).2)
        else (p.moved i f (Pg.put f (Pg.plan (Pg.frameWords i (p.version + 1) b)) p.m).1, 0) by rw [← HF.out]; rfl)
      have hown := hm.own_ 1 rfl
      have hbw := hm.low
      dsimp only at hown
      rw [← hL] at hown
      have hfl := Lib.hid (full_lt _ (frameWords_lt i (p.version + 1) b HOK.out.hi24 HOK.out.ver))
      clear hL HWF HA HD hm hk hd hd2 hat ho9 ho hn2 hn HK
      generalize Pg.frameWords i (p.version + 1) b = W at *
      go_loopg [77] 21 (fun g2 j wr => ∃ (k : Nat) (mk : Cel.Mem), k + g2 = 21 ∧ j = .int .i64 (k : Int) ∧ Hid (Pg.put f (Pg.plan W) p.m = Pg.put f ((Pg.plan W).drop k) mk) ∧ Hid (Cel.Fine (K + k) mk) ∧ PAt wr g G s { p with m := mk } ∧ Own wr w0.heap.size 3 1 A5 21 c5 (ncells (full W)) ∧ Only (MemR s.gm s.gw s.gv) w0 wr)
      case atStart => exact ⟨0, p.m, by omega, rfl, Lib.hid rfl, Lib.hid (by simpa using HOK.out.fine), HH.out.below hbw, hown, Only.of_below hbw⟩
      case round =>
        clear hown hbw
        obtain ⟨k, mk, hkg, rfl, hput, hfine, hp, hown, ho⟩ := hrel
        cases gk with
        | zero =>
          obtain rfl : k = 21 := by omega
          have hpe : p.place i b = (p.moved i f mk, 0) := by
            have h1 := hput.out
            rw [List.drop_of_length_le (by rw [plan_eq W hlW]; simp)] at h1
            rw [hP.out, h1]
            rfl
          have HP := Lib.hid hp
          have HO := Lib.hid ho
          have hm := hp.mem3
          simp only [pcs] at hm
          rw [eF] at hm
          have hcap := hp.cap
          dsimp only at hcap hm
          have hi := HOK.out.hi
          have hff := HOK.out.ff
          rw [HF.out] at hff
          clear hput hfine hP hown hp ho
          replace hpe := Lib.hid hpe
          have hcap1 : ¬ s.cf = 1 := by omega
          have NF := Lib.hid (fun (u : World) (h : Only (fun q => q = g ∨ q = s.A ∨ q = s.Ho) wr u) => show Nrow u u.heap.size (some ⟨bF, oF + 1, none⟩) (p.freed.length - 1) (s.cf - 1) (p.freed.drop 1) by
            have hr := Row.only (B := 0) HP.out.freed h (fun a e => by
              have := HP.out.nF a e
              simp only [List.mem_cons, List.not_mem_nil, or_false, not_or] at this
              rintro (h | h | h)
              · exact this.1 h
              · exact this.2.2.2.2.1 h
              · exact this.2.2.2.2.2 h)
            dsimp only at hr
            rw [eF] at hr
            have h2 := hr.drop 1
            exact ⟨by simp, by omega, by simpa [ncells, List.map_drop] using h2⟩)
          cases hat : p.at_.getD i none with
          | none =>
            have CA := Lib.hid (fun (u : World) (h : Blk u s.A 3 (ecells p.at_ ++ s.ra).toArray) => show u.cell? ⟨s.A, i, none⟩ = some (.int .i64 (-1)) by have := cells_at _ _ i hi h; rwa [hat] at this)
            go_wp2_with (first | go_skip | ((with_reducible show wpList _ _ _ _ _ (World.alloc _ _)); refine wpList_up hm ?_; clear hm; intro n w hn hn2 hk hm hd hd2 ho; (try rw [← hn]); replace hn := Nat.le_of_eq hn.symm) | ((first | ((with_reducible show wpList _ _ _ (Oper.mk _ (Op.box _ _) _ _ _ _ :: _) _ _); (refine bxA hm ?_; clear hm; intro n w hn hz hm ho; (try simp only [List.cons_append, List.nil_append] at hm))) | ((with_reducible show wpList _ _ _ (Oper.mk _ (Op.load _ _) _ _ _ _ :: _) _ _); first | (refine ldA hm ?_) | (refine laA hm ?_)) | ((with_reducible show wpList _ _ _ (Oper.mk _ (Op.store _ _ _) _ _ _ _ :: _) _ _); (refine stA hm ?_; clear hm; intro w hz hm ho)) | ((with_reducible show wpList _ _ _ (Oper.mk _ (Op.alloc _) _ _ _ _ :: _) _ _); (refine alA hm ?_; clear hm; intro n w hn hz hm ho; (try simp only [List.cons_append, List.nil_append] at hm)))); try simp only [Act.put, sxQ]) | ((with_reducible show wpList _ _ _ (Oper.mk _ (Op.load _ _) _ _ _ _ :: _) _ _); refine wpList_lc (by rfl) _ _ rfl _ rfl (by decide +kernel) _ (CA.out _ (hm.at_ 1 rfl)) ?_; (try simp only [Act.put, sxQ])))
            refine wp_region_noPanic ?_
            refine wp_region_phase (S := MemS _ _ _ _) [13, 15] (by kernel_rfl) (MemS.of hm.drew) (fun hHeld => ?_)
            refine wpAnyP_fresh (by repeat (first | apply Fresh.a | apply Fresh.b)) ?_
            replace hm := hm.drew
            iterate 5 (first | (refine takePN 0 hHeld ?_) | (refine takePY 0 ?_ hHeld ?_ ?_; rotate_left 1; (first | (intro w9 h9; (with_reducible show (execOp _ (Oper.mk _ (Op.load _ _) _ _ _ _)).run _ _ = _); first | exact h9.ldA | exact h9.laA) | focus (intro w9 hSw; go_simp; (try (with_reducible rfl)); done))); try simp only [Act.put, sxQ])
            iterate 1 (refine wpAnyP_takeP (b := 5) (by repeat (first | apply Seek.a | apply Seek.b | apply Seek.c)) (by simp only [sxN]; first | done | exact rfl) ⟨?_, by kernel_rfl, by kernel_rfl, by kernel_rfl, by kernel_rfl, fun _ _ _ h => h, Or.inl ⟨by rfl, ?_⟩, (by first | exact Early.of hHeld | exact Early.off (by kernel_rfl)), ?_⟩; rotate_left 1; focus (intro w9 hSw; go_simp; (try (with_reducible rfl)); done); try simp only [Act.put, sxQ])
            try simp only [Act.put, sxQ]
            iterate 1 (refine wpAnyP_takeP (b := 6) (by repeat (first | apply Seek.a | apply Seek.b | apply Seek.c)) (by simp only [sxN]; first | done | exact rfl) ⟨?_, by kernel_rfl, by kernel_rfl, by kernel_rfl, by kernel_rfl, fun _ _ _ h => h, Or.inl ⟨by rfl, ?_⟩, (by first | exact Early.of hHeld | exact Early.off (by kernel_rfl)), ?_⟩; rotate_left 1; focus (intro w9 hSw; go_simp; (try (with_reducible rfl)); done); try simp only [Act.put, sxQ])
            try simp only [Act.put, sxQ]
            iterate 1 (refine wpAnyP_takeP (b := 7) (by repeat (first | apply Seek.a | apply Seek.b | apply Seek.c)) (by simp only [sxN]; first | done | exact rfl) ⟨?_, by kernel_rfl, by kernel_rfl, by kernel_rfl, by kernel_rfl, fun _ _ _ h => h, Or.inl ⟨by rfl, ?_⟩, (by first | exact Early.of hHeld | exact Early.off (by kernel_rfl)), ?_⟩; rotate_left 1; focus (intro w9 hSw; go_simp; (try (with_reducible rfl)); done); try simp only [Act.put, sxQ])
            try simp only [Act.put, sxQ]
            iterate 1 (first | (refine takePN 8 hHeld ?_) | (refine takePY 8 ?_ hHeld ?_ ?_; rotate_left 1; (first | (intro w9 h9; (with_reducible show (execOp _ (Oper.mk _ (Op.load _ _) _ _ _ _)).run _ _ = _); first | exact h9.ldA | exact h9.laA) | focus (intro w9 hSw; go_simp; (try (with_reducible rfl)); done))); try simp only [Act.put, sxQ])
            iterate 1 (first | (refine takePN 10 hHeld ?_) | (refine takePY 10 ?_ hHeld ?_ ?_; rotate_left 1; (first | (intro w9 h9; (with_reducible show (execOp _ (Oper.mk _ (Op.load _ _) _ _ _ _)).run _ _ = _); first | exact h9.ldA | exact h9.laA) | focus (intro w9 hSw; go_simp; (try (with_reducible rfl)); done))); try simp only [Act.put, sxQ])
            iterate 1 (refine wpAnyP_takeP (b := 9) (by repeat (first | apply Seek.a | apply Seek.b | apply Seek.c)) (by simp only [sxN]; first | done | exact rfl) ⟨?_, by kernel_rfl, by kernel_rfl, by kernel_rfl, by kernel_rfl, fun _ _ _ h => h, Or.inl ⟨by rfl, ?_⟩, (by first | exact Early.of hHeld | exact Early.off (by kernel_rfl)), ?_⟩; rotate_left 1; focus (intro w9 hSw; go_simp; (try (with_reducible rfl)); done); try simp only [Act.put, sxQ])
            try simp only [Act.put, sxQ]
            iterate 1 (refine wpAnyP_takeP (b := 11) (by repeat (first | apply Seek.a | apply Seek.b | apply Seek.c)) (by simp only [sxN]; first | done | exact rfl) ⟨?_, by kernel_rfl, by kernel_rfl, by kernel_rfl, by kernel_rfl, fun _ _ _ h => h, Or.inl ⟨by rfl, ?_⟩, (by first | exact Early.of hHeld | exact Early.off (by kernel_rfl)), ?_⟩; rotate_left 1; focus (intro w9 hSw; go_simp; (try (with_reducible rfl)); done); try simp only [Act.put, sxQ])
            try simp only [Act.put, sxQ]
            iterate 1 (refine wpAnyP_takeP (b := 12) (by repeat (first | apply Seek.a | apply Seek.b | apply Seek.c)) (by simp only [sxN]; first | done | exact rfl) ⟨?_, by kernel_rfl, by kernel_rfl, by kernel_rfl, by kernel_rfl, fun _ _ _ h => h, Or.inl ⟨by rfl, ?_⟩, (by first | exact Early.of hHeld | exact Early.off (by kernel_rfl)), ?_⟩; rotate_left 1; focus (intro w9 hSw; go_simp; (try (with_reducible rfl)); done); try simp only [Act.put, sxQ])
            try simp only [Act.put, sxQ]
            refine wpAnyP_last 13 (by kernel_rfl) (by simp only [sxN]; first | done | exact rfl) (by kernel_rfl) (fun K hK => ?_)
            refine stB hm ?_ (hcs := spl_cells _ _ _ hi (some f)) (hin := by simp [ecells]; omega)
            clear hm; intro w hz hm ho
            refine hK.out _ _ ?_
            clear hK K
            try simp only [Act.put, sxQ]
            iterate 1 (refine wpAnyP_takeP (b := 14) (by repeat (first | apply Seek.a | apply Seek.b | apply Seek.c)) (by simp only [sxN]; first | done | exact rfl) ⟨?_, by kernel_rfl, by kernel_rfl, by kernel_rfl, by kernel_rfl, fun _ _ _ h => h, Or.inl ⟨by rfl, ?_⟩, (by first | exact Early.of hHeld | exact Early.off (by kernel_rfl)), ?_⟩; rotate_left 1; focus (intro w9 hSw; go_simp; (try (with_reducible rfl)); done); try simp only [Act.put, sxQ])
            try simp only [Act.put, sxQ]
            refine wpAnyP_last 15 (by kernel_rfl) (by simp only [sxN]; first | done | exact rfl) (by kernel_rfl) (fun K hK => ?_)
            refine stB hm ?_ (hcs := spl_cells _ _ _ hff (some i)) (hin := by simp [ecells]; omega)
            clear hm; intro w hz hm ho
            refine hK.out _ _ ?_
            clear hK K
            try simp only [Act.put, sxQ]
            refine wpAnyP_done (by kernel_rfl) ?_ _
            refine NoPanic.normal ?_
            go_wp2_with (first | go_skip | ((with_reducible show wpList _ _ _ _ _ (World.alloc _ _)); refine wpList_up hm ?_; clear hm; intro n w hn hn2 hk hm hd hd2 ho; (try rw [← hn]); replace hn := Nat.le_of_eq hn.symm) | ((first | ((with_reducible show wpList _ _ _ (Oper.mk _ (Op.box _ _) _ _ _ _ :: _) _ _); (refine bxA hm ?_; clear hm; intro n w hn hz hm ho; (try simp only [List.cons_append, List.nil_append] at hm))) | ((with_reducible show wpList _ _ _ (Oper.mk _ (Op.load _ _) _ _ _ _ :: _) _ _); first | (refine ldA hm ?_) | (refine laA hm ?_)) | ((with_reducible show wpList _ _ _ (Oper.mk _ (Op.store _ _ _) _ _ _ _ :: _) _ _); (refine stA hm ?_; clear hm; intro w hz hm ho)) | ((with_reducible show wpList _ _ _ (Oper.mk _ (Op.alloc _) _ _ _ _ :: _) _ _); (refine alA hm ?_; clear hm; intro n w hn hz hm ho; (try simp only [List.cons_append, List.nil_append] at hm)))); try simp only [Act.put, sxQ]))
            go_ret
            rw [hpe.out, moved_none hat]
            refine ⟨rfl, _, { s with F := some ⟨bF, oF + 1, none⟩, cf := s.cf - 1 }, HP.out.rebuilt hm.only _ _ ?_ ?_ ?_ rfl ?_ ?_ ?_, ?_, ?_, rfl⟩
            · have := hm.at_ 0 rfl
              simpa [pcs] using this
            · exact hm.at_ 1 rfl
            · exact hm.at_ 2 rfl
            · exact (NF.out _ hm.only).2.2
            · simp only [List.length_drop]; omega
            · intro a e
              cases e
              have h1 := HP.out.nF _ eF
              have h2 := HP.out.hF _ eF
              exact ⟨.inl h2, Nat.lt_of_lt_of_le (HP.out.lt _ h2) hm.only.size, h1⟩
            · rintro q (h | h)
              · exact .inl h
              · exact .inr (Nat.le_trans HO.out.size h.1)
            · exact (HO.out.mono fun q _ hq => HH.out.hg q (by rcases hq with h | h | h <;> simp [h])).trans (hm.only.mono fun q _ hq => HH.out.hg q (by rcases hq with h | h | h <;> simp [h]))
          | some old =>
            have CA := Lib.hid (fun (u : World) (h : Blk u s.A 3 (ecells p.at_ ++ s.ra).toArray) => show u.cell? ⟨s.A, i, none⟩ = some (.int .i64 (old : Int)) by have := cells_at _ _ i hi h; rwa [hat] at this)
            have hoo := HOK.out.ho old hat
            have hoi : (old : Int) < (p.holds.length : Int) := by omega
            have hon : ((old : Int) != -1) = true := by rw [bne_iff_ne]; omega
            have hfl' := HOK.out.fl
            go_wp2_with (first | ((with_reducible show wpList _ _ _ (Oper.mk _ (Op.store _ (Operand.tmp 134) _) _ _ _ _ :: _) _ _); refine stA hm ?_ (hcs := spl_cells _ _ _ hoo none) (hin := by simp [ecells]; omega); clear hm; intro w hz hm ho; (try simp only [Act.put, sxQ])) | go_skip | ((with_reducible show wpList _ _ _ _ _ (World.alloc _ _)); refine wpList_up hm ?_; clear hm; intro n w hn hn2 hk hm hd hd2 ho; (try rw [← hn]); replace hn := Nat.le_of_eq hn.symm) | ((first | ((with_reducible show wpList _ _ _ (Oper.mk _ (Op.box _ _) _ _ _ _ :: _) _ _); (refine bxA hm ?_; clear hm; intro n w hn hz hm ho; (try simp only [List.cons_append, List.nil_append] at hm))) | ((with_reducible show wpList _ _ _ (Oper.mk _ (Op.load _ _) _ _ _ _ :: _) _ _); first | (refine ldA hm ?_) | (refine laA hm ?_)) | ((with_reducible show wpList _ _ _ (Oper.mk _ (Op.store _ _ _) _ _ _ _ :: _) _ _); (refine stA hm ?_; clear hm; intro w hz hm ho)) | ((with_reducible show wpList _ _ _ (Oper.mk _ (Op.alloc _) _ _ _ _ :: _) _ _); (refine alA hm ?_; clear hm; intro n w hn hz hm ho; (try simp only [List.cons_append, List.nil_append] at hm)))); try simp only [Act.put, sxQ]) | ((with_reducible show wpList _ _ _ (Oper.mk _ (Op.load _ _) _ _ _ _ :: _) _ _); refine wpList_lc (by rfl) _ _ rfl _ rfl (by decide +kernel) _ (CA.out _ (hm.at_ 1 rfl)) ?_; (try simp only [Act.put, sxQ])) | (go_at_call 53; refine (slices_CloneN _ _ _ _ _ (NF.out _ hm.only) (by omega) (by omega)).mono ?_; rintro e w8 ⟨A8, c8, rfl, hown8, hb8⟩; replace hm := hm.got hb8 hown8; clear hown8) | ((with_reducible show wpList _ _ _ (Oper.mk _ (Op.call { callee := Callee.builtin Builtin.append, args := #[Operand.tmp 140, Operand.tmp 142], argTypes := _ }) _ _ _ _ :: _) _ _); refine wpList_ap (by rfl) (.tmp 140) (.tmp 142) 63 rfl 3 ti _ 1 8 Try.underlying63 hi0 hz0 hz1 hz2 rfl (by omega) _ (p.freed.length - 1) _ (ncells (p.freed.drop 1)) rfl hm 0 rfl _ (some ⟨_, 0, none⟩) 1 1 (ncells [old]) rfl hk.row (by simp [ncells]) (ncells_one _) (by unfold maxLen; omega) (by omega) ?_; clear hm; intro A9 c9 w hm ho9 hat9; (try simp only [Act.put, sxQ]); simp only [List.set_cons_zero, ← ncells_append] at hm))
            refine wp_region_noPanic ?_
            refine wp_region_phase (S := MemS _ _ _ _) [13, 15] (by kernel_rfl) (MemS.of hm.drew) (fun hHeld => ?_)
            refine wpAnyP_fresh (by repeat (first | apply Fresh.a | apply Fresh.b)) ?_
            replace hm := hm.drew
            iterate 5 (first | (refine takePN 0 hHeld ?_) | (refine takePY 0 ?_ hHeld ?_ ?_; rotate_left 1; (first | (intro w9 h9; (with_reducible show (execOp _ (Oper.mk _ (Op.load _ _) _ _ _ _)).run _ _ = _); first | exact h9.ldA | exact h9.laA) | focus (intro w9 hSw; go_simp; (try (with_reducible rfl)); done))); try simp only [Act.put, sxQ])
            iterate 1 (refine wpAnyP_takeP (b := 5) (by repeat (first | apply Seek.a | apply Seek.b | apply Seek.c)) (by simp only [sxN]; first | done | exact rfl) ⟨?_, by kernel_rfl, by kernel_rfl, by kernel_rfl, by kernel_rfl, fun _ _ _ h => h, Or.inl ⟨by rfl, ?_⟩, (by first | exact Early.of hHeld | exact Early.off (by kernel_rfl)), ?_⟩; rotate_left 1; focus (intro w9 hSw; go_simp; (try (with_reducible rfl)); done); try simp only [Act.put, sxQ])
            try simp only [Act.put, sxQ]
            iterate 1 (refine wpAnyP_takeP (b := 6) (by repeat (first | apply Seek.a | apply Seek.b | apply Seek.c)) (by simp only [sxN]; first | done | exact rfl) ⟨?_, by kernel_rfl, by kernel_rfl, by kernel_rfl, by kernel_rfl, fun _ _ _ h => h, Or.inl ⟨by rfl, ?_⟩, (by first | exact Early.of hHeld | exact Early.off (by kernel_rfl)), ?_⟩; rotate_left 1; focus (intro w9 hSw; go_simp; (try (with_reducible rfl)); done); try simp only [Act.put, sxQ])
            try simp only [Act.put, sxQ]
            iterate 1 (refine wpAnyP_takeP (b := 7) (by repeat (first | apply Seek.a | apply Seek.b | apply Seek.c)) (by simp only [sxN]; first | done | exact rfl) ⟨?_, by kernel_rfl, by kernel_rfl, by kernel_rfl, by kernel_rfl, fun _ _ _ h => h, Or.inl ⟨by rfl, ?_⟩, (by first | exact Early.of hHeld | exact Early.off (by kernel_rfl)), ?_⟩; rotate_left 1; focus (intro w9 hSw; go_simp; (try (with_reducible rfl)); done); try simp only [Act.put, sxQ])
            try simp only [Act.put, sxQ]
            iterate 1 (first | (refine takePN 8 hHeld ?_) | (refine takePY 8 ?_ hHeld ?_ ?_; rotate_left 1; (first | (intro w9 h9; (with_reducible show (execOp _ (Oper.mk _ (Op.load _ _) _ _ _ _)).run _ _ = _); first | exact h9.ldA | exact h9.laA) | focus (intro w9 hSw; go_simp; (try (with_reducible rfl)); done))); try simp only [Act.put, sxQ])
            iterate 1 (first | (refine takePN 10 hHeld ?_) | (refine takePY 10 ?_ hHeld ?_ ?_; rotate_left 1; (first | (intro w9 h9; (with_reducible show (execOp _ (Oper.mk _ (Op.load _ _) _ _ _ _)).run _ _ = _); first | exact h9.ldA | exact h9.laA) | focus (intro w9 hSw; go_simp; (try (with_reducible rfl)); done))); try simp only [Act.put, sxQ])
            iterate 1 (refine wpAnyP_takeP (b := 9) (by repeat (first | apply Seek.a | apply Seek.b | apply Seek.c)) (by simp only [sxN]; first | done | exact rfl) ⟨?_, by kernel_rfl, by kernel_rfl, by kernel_rfl, by kernel_rfl, fun _ _ _ h => h, Or.inl ⟨by rfl, ?_⟩, (by first | exact Early.of hHeld | exact Early.off (by kernel_rfl)), ?_⟩; rotate_left 1; focus (intro w9 hSw; go_simp; (try (with_reducible rfl)); done); try simp only [Act.put, sxQ])
            try simp only [Act.put, sxQ]
            iterate 1 (refine wpAnyP_takeP (b := 11) (by repeat (first | apply Seek.a | apply Seek.b | apply Seek.c)) (by simp only [sxN]; first | done | exact rfl) ⟨?_, by kernel_rfl, by kernel_rfl, by kernel_rfl, by kernel_rfl, fun _ _ _ h => h, Or.inl ⟨by rfl, ?_⟩, (by first | exact Early.of hHeld | exact Early.off (by kernel_rfl)), ?_⟩; rotate_left 1; focus (intro w9 hSw; go_simp; (try (with_reducible rfl)); done); try simp only [Act.put, sxQ])
            try simp only [Act.put, sxQ]
            iterate 1 (refine wpAnyP_takeP (b := 12) (by repeat (first | apply Seek.a | apply Seek.b | apply Seek.c)) (by simp only [sxN]; first | done | exact rfl) ⟨?_, by kernel_rfl, by kernel_rfl, by kernel_rfl, by kernel_rfl, fun _ _ _ h => h, Or.inl ⟨by rfl, ?_⟩, (by first | exact Early.of hHeld | exact Early.off (by kernel_rfl)), ?_⟩; rotate_left 1; focus (intro w9 hSw; go_simp; (try (with_reducible rfl)); done); try simp only [Act.put, sxQ])
            try simp only [Act.put, sxQ]
            refine wpAnyP_last 13 (by kernel_rfl) (by simp only [sxN]; first | done | exact rfl) (by kernel_rfl) (fun K hK => ?_)
            refine stB hm ?_ (hcs := spl_cells _ _ _ hi (some f)) (hin := by simp [ecells]; omega)
            clear hm; intro w hz hm ho
            refine hK.out _ _ ?_
            clear hK K
            try simp only [Act.put, sxQ]
            iterate 1 (refine wpAnyP_takeP (b := 14) (by repeat (first | apply Seek.a | apply Seek.b | apply Seek.c)) (by simp only [sxN]; first | done | exact rfl) ⟨?_, by kernel_rfl, by kernel_rfl, by kernel_rfl, by kernel_rfl, fun _ _ _ h => h, Or.inl ⟨by rfl, ?_⟩, (by first | exact Early.of hHeld | exact Early.off (by kernel_rfl)), ?_⟩; rotate_left 1; focus (intro w9 hSw; go_simp; (try (with_reducible rfl)); done); try simp only [Act.put, sxQ])
            try simp only [Act.put, sxQ]
            refine wpAnyP_last 15 (by kernel_rfl) (by simp only [sxN]; first | done | exact rfl) (by kernel_rfl) (fun K hK => ?_)
            refine stB hm ?_ (hcs := spl_cells _ _ f (by rw [List.length_set]; exact hff) (some i)) (hin := by simp [ecells]; omega)
            clear hm; intro w hz hm ho
            refine hK.out _ _ ?_
            clear hK K
            try simp only [Act.put, sxQ]
            refine wpAnyP_done (by kernel_rfl) ?_ _
            refine NoPanic.normal ?_
            go_wp2_with (first | go_skip | ((with_reducible show wpList _ _ _ _ _ (World.alloc _ _)); refine wpList_up hm ?_; clear hm; intro n w hn hn2 hk hm hd hd2 ho; (try rw [← hn]); replace hn := Nat.le_of_eq hn.symm) | ((first | ((with_reducible show wpList _ _ _ (Oper.mk _ (Op.box _ _) _ _ _ _ :: _) _ _); (refine bxA hm ?_; clear hm; intro n w hn hz hm ho; (try simp only [List.cons_append, List.nil_append] at hm))) | ((with_reducible show wpList _ _ _ (Oper.mk _ (Op.load _ _) _ _ _ _ :: _) _ _); first | (refine ldA hm ?_) | (refine laA hm ?_)) | ((with_reducible show wpList _ _ _ (Oper.mk _ (Op.store _ _ _) _ _ _ _ :: _) _ _); (refine stA hm ?_; clear hm; intro w hz hm ho)) | ((with_reducible show wpList _ _ _ (Oper.mk _ (Op.alloc _) _ _ _ _ :: _) _ _); (refine alA hm ?_; clear hm; intro n w hn hz hm ho; (try simp only [List.cons_append, List.nil_append] at hm)))); try simp only [Act.put, sxQ]))
            go_ret
            rw [hpe.out, moved_some hat]
            refine ⟨rfl, _, { s with F := A9, cf := c9 }, HP.out.rebuilt hm.only _ _ ?_ ?_ ?_ rfl ?_ ?_ ?_, ?_, ?_, rfl⟩
            · have := hm.at_ 0 rfl
              simpa [pcs] using this
            · exact hm.at_ 1 rfl
            · exact hm.at_ 2 rfl
            · exact (hm.sl_ 0 rfl).row
            · have := (hm.sl_ 0 rfl).le
              simpa using this
            · intro a e
              have h9 := hm.sl_ 0 rfl
              have hc9 : 0 < c9 := by have := h9.le; dsimp only at this; omega
              have ho9 : ownAt A9 c9 = some a.block := ownAt_some hc9 e
              have h1 := hm.slt (List.mem_singleton.2 rfl) ho9
              have h2 := hm.slR _ (List.mem_singleton.2 rfl) _ ho9
              have h3 : a.block ∉ [g, s.gm, s.gw, s.gv, s.A, s.Ho] := by
                intro hmem
                have hl := HP.out.lt _ (HP.out.hg _ hmem)
                rcases h2 with (h | h | h) | h
                · exact hm.slL _ (List.mem_singleton.2 rfl) _ (List.mem_cons_self) (by rw [ho9, h])
                · exact hm.slL _ (List.mem_singleton.2 rfl) _ (List.mem_cons_of_mem _ List.mem_cons_self) (by rw [ho9, h])
                · exact hm.slL _ (List.mem_singleton.2 rfl) _ (List.mem_cons_of_mem _ (List.mem_cons_of_mem _ List.mem_cons_self)) (by rw [ho9, h])
                · omega
              refine ⟨?_, h1, h3⟩
              rcases h2 with (h | h | h) | h
              · exact absurd h (fun e => h3 (by simp [e]))
              · exact absurd h (fun e => h3 (by simp [e]))
              · exact absurd h (fun e => h3 (by simp [e]))
              · exact .inr h
            · rintro q (h | h)
              · exact .inl h
              · exact .inr (Nat.le_trans HO.out.size h.1)
            · exact (HO.out.mono fun q _ hq => HH.out.hg q (by rcases hq with h | h | h <;> simp [h])).trans (hm.only.mono fun q _ hq => HH.out.hg q (by rcases hq with h | h | h <;> simp [h]))
        | succ g2 =>
          have i0 : (k : Int) < 21 := by omega
          obtain ⟨b5, o5, rfl, hb5, ck⟩ := hown.nrow.at_ (k := k) (by omega)
          have hnx := Lib.hid (put_next f W hlW k (by omega) mk)
          have hx := hfl.out k
          generalize (full W).getD k 0 = x at *
          obtain ⟨ex1, ex2⟩ := enc_code x hx
          have hf1 : f < 65536 := by have := HOK.out.ff; have := HOK.out.hl; have := HF.out; omega
          have HE : (∀ u, Calls Try.prog 51 #[.int .i64 (x : Int)] u fun e w' => e = .returned (.tuple #[.int .u32 ((UInt32.ofNat (Ecc.code x)).toNat : Int), .int .i64 0]) ∧ Below u.heap.size u w') := fun u => by
            have := ecc_Encode (x : Int) u
            rwa [ex1, ex2] at this
          have HW : (∀ (u : World), PAt u g G s { p with m := mk } → ∀ a : Int, a = ((f * 20 + posAt k : Nat) : Int) → Calls Try.prog 52 #[.pointer (some ⟨s.gm, 0, none⟩), .int .i64 a, .int .u32 ((UInt32.ofNat (Ecc.code x)).toNat : Int)] u fun e w' =>
              e = .returned (.int .i64 (mk.write (f * 20 + posAt k : Nat) (UInt32.ofNat (Ecc.code x))).2) ∧ PAt w' g G s { p with m := (mk.write (f * 20 + posAt k : Nat) (UInt32.ofNat (Ecc.code x))).1 } ∧ Only (MemR s.gm s.gw s.gv) u w') := by
            intro u h a ha
            subst ha
            have hKk := HOK.out.hK
            refine (cell_Write h.mem _ _ _ rfl hfine.out ⟨by omega, by omega⟩).mono ?_
            rintro e w' ⟨rfl, h2, h3⟩
            exact ⟨rfl, h.memd h3 h2, h3⟩
          have hfn := Lib.hid (show Cel.Fine (K + (k + 1 : Nat)) (mk.write (f * 20 + posAt k : Nat) (UInt32.ofNat (Ecc.code x))).1 by
            have := hfine.out.write (by have := HOK.out.hK; omega) (f * 20 + posAt k : Nat) (UInt32.ofNat (Ecc.code x))
            rwa [show (K + (k + 1 : Nat) : Int) = K + k + 1 by omega])
          generalize mk.write (f * 20 + posAt k : Nat) (UInt32.ofNat (Ecc.code x)) = r at *
          replace HW := Lib.hid HW
          obtain ⟨mr, z⟩ := r
          dsimp only at *
          have hm := Mem.one (R := fun q => q = g) hp.blk rfl
          have HPB := Lib.hid hp.blk
          have HP := Lib.hid hp
          simp only [pcs] at hm HPB
          have HN := Lib.hid hown
          have HO := Lib.hid ho
          clear hp hown ho ex1 ex2
          replace HE := Lib.hid HE
          by_cases hk0 : k = 0
          · subst hk0
            rw [Nat.add_zero] at ck
            go_wp2_with (first | go_skip | ((with_reducible show wpList _ _ _ _ _ (World.alloc _ _)); refine wpList_up hm ?_; clear hm; intro n w hn hn2 hk hm hd hd2 ho; (try rw [← hn]); replace hn := Nat.le_of_eq hn.symm) | ((first | ((with_reducible show wpList _ _ _ (Oper.mk _ (Op.box _ _) _ _ _ _ :: _) _ _); (refine bxA hm ?_; clear hm; intro n w hn hz hm ho; (try simp only [List.cons_append, List.nil_append] at hm))) | ((with_reducible show wpList _ _ _ (Oper.mk _ (Op.load _ _) _ _ _ _ :: _) _ _); first | (refine ldA hm ?_) | (refine laA hm ?_)) | ((with_reducible show wpList _ _ _ (Oper.mk _ (Op.store _ _ _) _ _ _ _ :: _) _ _); (refine stA hm ?_; clear hm; intro w hz hm ho)) | ((with_reducible show wpList _ _ _ (Oper.mk _ (Op.alloc _) _ _ _ _ :: _) _ _); (refine alA hm ?_; clear hm; intro n w hn hz hm ho; (try simp only [List.cons_append, List.nil_append] at hm)))); try simp only [Act.put, sxQ]))
            go_at_call 51
            refine (HE.out _).mono ?_
            rintro e w8 ⟨rfl, hb8⟩
            replace hm := hm.below hb8
            go_wp2_with (first | go_skip | ((with_reducible show wpList _ _ _ _ _ (World.alloc _ _)); refine wpList_up hm ?_; clear hm; intro n w hn hn2 hk hm hd hd2 ho; (try rw [← hn]); replace hn := Nat.le_of_eq hn.symm) | ((first | ((with_reducible show wpList _ _ _ (Oper.mk _ (Op.box _ _) _ _ _ _ :: _) _ _); (refine bxA hm ?_; clear hm; intro n w hn hz hm ho; (try simp only [List.cons_append, List.nil_append] at hm))) | ((with_reducible show wpList _ _ _ (Oper.mk _ (Op.load _ _) _ _ _ _ :: _) _ _); first | (refine ldA hm ?_) | (refine laA hm ?_)) | ((with_reducible show wpList _ _ _ (Oper.mk _ (Op.store _ _ _) _ _ _ _ :: _) _ _); (refine stA hm ?_; clear hm; intro w hz hm ho)) | ((with_reducible show wpList _ _ _ (Oper.mk _ (Op.alloc _) _ _ _ _ :: _) _ _); (refine alA hm ?_; clear hm; intro n w hn hz hm ho; (try simp only [List.cons_append, List.nil_append] at hm)))); try simp only [Act.put, sxQ]))
            go_at_call 52
            refine (HW.out _ (HP.out.below hb8) _ (by first | rfl | (simp [posAt]; omega))).mono ?_
            rintro e w9 ⟨rfl, hp9, ho9⟩
            by_cases hz : z = 0
            · subst hz
              go_wp2_with fail
              go_roundg g2
              case measure => omega
              case rel =>
                refine ⟨0 + 1, mr, by omega, by first | rfl | go_num, ?_, hfn.out, hp9, ?_, (HO.out.trans (Only.of_below hb8)).trans ho9⟩
                · refine Lib.hid (hput.out.trans (hnx.out.trans ?_))
                  rw [if_neg (by decide)]
                · have hn8 := HN.out.below hb8
                  exact hn8.only' ho9 (fun q e hq => by have := (hn8.lt q e).1; have h3 := HH.out.hg q (by rcases hq with h | h | h <;> simp [h]); have := HH.out.lt q h3; omega)
            · have hzd : (z != 0) = true := by simpa using hz
              have HZ := Lib.hid hz
              clear hz
              go_wp2_with fail
              go_ret
              have hpe := hput.out.trans hnx.out
              rw [if_pos HZ.out] at hpe
              rw [hP.out, hpe, if_pos HZ.out]
              exact ⟨rfl, G, s, hp9, fun q h => .inl h, ((HO.out.trans (Only.of_below hb8)).trans ho9).mono fun q _ hq => HH.out.hg q (by rcases hq with h | h | h <;> simp [h]), rfl⟩
          · obtain ⟨j, rfl⟩ : ∃ j, k = j + 1 := ⟨k - 1, by omega⟩
            clear hk0
            go_wp2_with (first | go_skip | ((with_reducible show wpList _ _ _ _ _ (World.alloc _ _)); refine wpList_up hm ?_; clear hm; intro n w hn hn2 hk hm hd hd2 ho; (try rw [← hn]); replace hn := Nat.le_of_eq hn.symm) | ((first | ((with_reducible show wpList _ _ _ (Oper.mk _ (Op.box _ _) _ _ _ _ :: _) _ _); (refine bxA hm ?_; clear hm; intro n w hn hz hm ho; (try simp only [List.cons_append, List.nil_append] at hm))) | ((with_reducible show wpList _ _ _ (Oper.mk _ (Op.load _ _) _ _ _ _ :: _) _ _); first | (refine ldA hm ?_) | (refine laA hm ?_)) | ((with_reducible show wpList _ _ _ (Oper.mk _ (Op.store _ _ _) _ _ _ _ :: _) _ _); (refine stA hm ?_; clear hm; intro w hz hm ho)) | ((with_reducible show wpList _ _ _ (Oper.mk _ (Op.alloc _) _ _ _ _ :: _) _ _); (refine alA hm ?_; clear hm; intro n w hn hz hm ho; (try simp only [List.cons_append, List.nil_append] at hm)))); try simp only [Act.put, sxQ]))
            go_at_call 51
            refine (HE.out _).mono ?_
            rintro e w8 ⟨rfl, hb8⟩
            replace hm := hm.below hb8
            go_wp2_with (first | go_skip | ((with_reducible show wpList _ _ _ _ _ (World.alloc _ _)); refine wpList_up hm ?_; clear hm; intro n w hn hn2 hk hm hd hd2 ho; (try rw [← hn]); replace hn := Nat.le_of_eq hn.symm) | ((first | ((with_reducible show wpList _ _ _ (Oper.mk _ (Op.box _ _) _ _ _ _ :: _) _ _); (refine bxA hm ?_; clear hm; intro n w hn hz hm ho; (try simp only [List.cons_append, List.nil_append] at hm))) | ((with_reducible show wpList _ _ _ (Oper.mk _ (Op.load _ _) _ _ _ _ :: _) _ _); first | (refine ldA hm ?_) | (refine laA hm ?_)) | ((with_reducible show wpList _ _ _ (Oper.mk _ (Op.store _ _ _) _ _ _ _ :: _) _ _); (refine stA hm ?_; clear hm; intro w hz hm ho)) | ((with_reducible show wpList _ _ _ (Oper.mk _ (Op.alloc _) _ _ _ _ :: _) _ _); (refine alA hm ?_; clear hm; intro n w hn hz hm ho; (try simp only [List.cons_append, List.nil_append] at hm)))); try simp only [Act.put, sxQ]))
            go_at_call 52
            refine (HW.out _ (HP.out.below hb8) _ (by first | rfl | (simp [posAt]; omega))).mono ?_
            rintro e w9 ⟨rfl, hp9, ho9⟩
            by_cases hz : z = 0
            · subst hz
              go_wp2_with fail
              go_roundg g2
              case measure => omega
              case rel =>
                refine ⟨(j + 1) + 1, mr, by omega, by first | rfl | go_num, ?_, hfn.out, hp9, ?_, (HO.out.trans (Only.of_below hb8)).trans ho9⟩
                · refine Lib.hid (hput.out.trans (hnx.out.trans ?_))
                  rw [if_neg (by decide)]
                · have hn8 := HN.out.below hb8
                  exact hn8.only' ho9 (fun q e hq => by have := (hn8.lt q e).1; have h3 := HH.out.hg q (by rcases hq with h | h | h <;> simp [h]); have := HH.out.lt q h3; omega)
            · have hzd : (z != 0) = true := by simpa using hz
              have HZ := Lib.hid hz
              clear hz
              go_wp2_with fail
              go_ret
              have hpe := hput.out.trans hnx.out
              rw [if_pos HZ.out] at hpe
              rw [hP.out, hpe, if_pos HZ.out]
              exact ⟨rfl, G, s, hp9, fun q h => .inl h, ((HO.out.trans (Only.of_below hb8)).trans ho9).mono fun q _ hq => HH.out.hg q (by rcases hq with h | h | h <;> simp [h]), rfl⟩
    | succ g2 =>
      have C0 := Lib.hid (fun (u : World) (h : Below w0.heap.size w0 u) => (HB.out.below h).cellAt rfl (k := 3 * k) (by omega))
      have C1 := Lib.hid (fun (u : World) (h : Below w0.heap.size w0 u) => (HB.out.below h).cellAt rfl (k := 3 * k + 1) (by omega))
      have C2 := Lib.hid (fun (u : World) (h : Below w0.heap.size w0 u) => (HB.out.below h).cellAt rfl (k := 3 * k + 2) (by omega))
      have HT := Lib.hid (words_take b k (by omega))
      have l0 := (b.getD (3 * k) 0).toNat_lt
      have l1 := (b.getD (3 * k + 1) 0).toNat_lt
      have l2 := (b.getD (3 * k + 2) 0).toNat_lt
      have HO := Lib.hid (or3 _ _ _ l0 l1 l2)
      have HWA := Lib.hid (show wordAt b k = (b.getD (3 * k) 0).toNat * 65536 + (b.getD (3 * k + 1) 0).toNat * 256 + (b.getD (3 * k + 2) 0).toNat from rfl)
      generalize (b.getD (3 * k) 0).toNat = x0 at *
      generalize (b.getD (3 * k + 1) 0).toNat = x1 at *
      generalize (b.getD (3 * k + 2) 0).toNat = x2 at *
      have i0 : 3 * (k : Int) < 48 := by omega
      have i1 : 3 * (k : Int) + 1 < 48 := by omega
      have i2 : 3 * (k : Int) + 2 < 48 := by omega
      have q0 : 0 ≤ 3 * (k : Int) := by omega
      have q1 : 0 ≤ 3 * (k : Int) + 1 := by omega
      have q2 : 0 ≤ 3 * (k : Int) + 2 := by omega
      have t0 : (3 * (k : Int)).toNat = 3 * k := by omega
      have t1 : (3 * (k : Int) + 1).toNat = 3 * k + 1 := by omega
      have t2 : (3 * (k : Int) + 2).toNat = 3 * k + 2 := by omega
      have r1 : IntKind.i64.wrap (3 * (k : Int) + 1) = 3 * (k : Int) + 1 := IntWalk.i64_in _ (by omega)
      have r2 : IntKind.i64.wrap (3 * (k : Int) + 2) = 3 * (k : Int) + 2 := IntWalk.i64_in _ (by omega)
      have s0 : IntKind.i64.wrap (x0 : Int) = (x0 : Int) := IntWalk.i64_in _ (by omega)
      have s1 : IntKind.i64.wrap (x1 : Int) = (x1 : Int) := IntWalk.i64_in _ (by omega)
      have s2 : IntKind.i64.wrap (x2 : Int) = (x2 : Int) := IntWalk.i64_in _ (by omega)
      have r3 : IntKind.i64.wrap ((x0 : Int) * 65536) = (x0 : Int) * 65536 := IntWalk.i64_in _ (by omega)
      have r4 : IntKind.i64.wrap ((x1 : Int) * 256) = (x1 : Int) * 256 := IntWalk.i64_in _ (by omega)
      go_wp2_with (first | go_skip | ((with_reducible show wpList _ _ _ _ _ (World.alloc _ _)); refine wpList_up hm ?_; clear hm; intro n w hn hn2 hk hm hd hd2 ho; (try rw [← hn]); replace hn := Nat.le_of_eq hn.symm) | ((first | ((with_reducible show wpList _ _ _ (Oper.mk _ (Op.box _ _) _ _ _ _ :: _) _ _); (refine bxA hm ?_; clear hm; intro n w hn hz hm ho; (try simp only [List.cons_append, List.nil_append] at hm))) | ((with_reducible show wpList _ _ _ (Oper.mk _ (Op.load _ _) _ _ _ _ :: _) _ _); first | (refine ldA hm ?_) | (refine laA hm ?_)) | ((with_reducible show wpList _ _ _ (Oper.mk _ (Op.store _ _ _) _ _ _ _ :: _) _ _); (refine stA hm ?_; clear hm; intro w hz hm ho)) | ((with_reducible show wpList _ _ _ (Oper.mk _ (Op.alloc _) _ _ _ _ :: _) _ _); (refine alA hm ?_; clear hm; intro n w hn hz hm ho; (try simp only [List.cons_append, List.nil_append] at hm)))); try simp only [Act.put, sxQ]))
      have hmK := hm.drew
      replace hm := hm.noO
      refine wp_region_noPanic ?_
      refine wp_region_held_drew (S := MemS _ _ _ _) (by kernel_rfl) (MemS.of hm.drew) (fun hHeld => ?_)
      refine wpAnyH_fresh (by repeat (first | apply Fresh.a | apply Fresh.b)) ?_
      clear hm
      have hm := hmK
      iterate 22 (first | (refine takeN 0 hHeld ?_) | (refine takeY 0 ?_ hHeld ?_ ?_; rotate_left 1; (first | (intro w9 h9; (with_reducible show (execOp _ (Oper.mk _ (Op.load _ _) _ _ _ _)).run _ _ = _); first | exact h9.ldA | (exact exec_lc _ _ rfl _ rfl (by decide +kernel) _ (C0.out _ (MemS.mem h9).low) _ (by first | done | exact rfl)) | (exact exec_lc _ _ rfl _ rfl (by decide +kernel) _ (C1.out _ (MemS.mem h9).low) _ (by first | done | exact rfl)) | (exact exec_lc _ _ rfl _ rfl (by decide +kernel) _ (C2.out _ (MemS.mem h9).low) _ (by first | done | exact rfl)) | exact h9.laA) | focus (intro w9 hSw; go_simp; (try (with_reducible rfl)); done))); try simp only [Act.put, sxQ])
      refine wpAnyH_ready (rs := [22]) (by kernel_rfl) (by simp) ?_
      refine AllReadyH.cons2 (by simp only [sxN]; first | done | exact rfl) (fun K hK => ?_)
      rw [if_pos (by rfl)]
      go_simp
      refine K_up hm ?_
      intro n5 w5 hn hn5s hn5 hm1 hn5d hn5d2 hb1
      first | rw [← hn] | rw [← (show n5 = wr.heap.size from hn)]
      rw [HO.out, ← HWA.out] at hn5
      clear hn hm
      have hm := hm1
      clear hm1
      refine hK.out _ _ (MemS.of hm.noO) (fun hHeld => ?_)
      clear hK K
      try simp only [Act.put, sxQ]
      refine wpAnyH_ready (rs := [23]) (by kernel_rfl) (by simp) ?_
      refine AllReadyH.cons2 (by simp only [sxN]; first | done | exact rfl) (fun K hK => ?_)
      refine step_ap (by rfl) (.tmp 36) (.tmp 58) 63 rfl 3 ti _ 1 8 Try.underlying63 hi0 hz0 hz1 hz2 rfl (by omega) A2 k c2 _ rfl hm 0 rfl _ (some ⟨n5, 0, none⟩) 1 1 (ncells [wordAt b k]) rfl hn5.row (by simp [ncells]) (ncells_one _) (by unfold maxLen; omega) (by omega) ?_
      clear hm; intro A3 c3 w hm ho9 hat
      simp only [List.set_cons_zero] at hm
      refine hK.out _ _ (MemS.of hm.noO) (fun hHeld => ?_)
      clear hK K
      try simp only [Act.put, sxQ]
      iterate 1 (first | (refine takeN 24 hHeld ?_) | (refine takeY 24 ?_ hHeld ?_ ?_; rotate_left 1; (first | (intro w9 h9; (with_reducible show (execOp _ (Oper.mk _ (Op.load _ _) _ _ _ _)).run _ _ = _); first | exact h9.ldA) | focus (intro w9 hSw; go_simp; (try (with_reducible rfl)); done))); try simp only [Act.put, sxQ])
      refine wpAnyH_done (by kernel_rfl) ?_ _
      refine NoPanic.normal ?_
      go_wp2_with (first | go_skip | ((with_reducible show wpList _ _ _ _ _ (World.alloc _ _)); refine wpList_up hm ?_; clear hm; intro n w hn hn2 hk hm hd hd2 ho; (try rw [← hn]); replace hn := Nat.le_of_eq hn.symm) | ((first | ((with_reducible show wpList _ _ _ (Oper.mk _ (Op.box _ _) _ _ _ _ :: _) _ _); (refine bxA hm ?_; clear hm; intro n w hn hz hm ho; (try simp only [List.cons_append, List.nil_append] at hm))) | ((with_reducible show wpList _ _ _ (Oper.mk _ (Op.load _ _) _ _ _ _ :: _) _ _); first | (refine ldA hm ?_) | (refine laA hm ?_)) | ((with_reducible show wpList _ _ _ (Oper.mk _ (Op.store _ _ _) _ _ _ _ :: _) _ _); (refine stA hm ?_; clear hm; intro w hz hm ho)) | ((with_reducible show wpList _ _ _ (Oper.mk _ (Op.alloc _) _ _ _ _ :: _) _ _); (refine alA hm ?_; clear hm; intro n w hn hz hm ho; (try simp only [List.cons_append, List.nil_append] at hm)))); try simp only [Act.put, sxQ]))
      go_roundg g2
      case measure => omega
      case rel =>
        exact ⟨k + 1, A3, c3, by omega, by go_num, rfl, by rw [HT.out, ncells_append]; exact hm⟩
end Go.Proofs.Ytnlhammgcemchaa
