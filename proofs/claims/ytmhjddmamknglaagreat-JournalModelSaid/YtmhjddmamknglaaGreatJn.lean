/-
  The journal, plain: pages of 48 bytes, changes, the log; that making changes again is harmless.
-/
import Derived.Test.YtmhjddmamknglaaGreatZ3
namespace Go.Proofs.YtmhjddmamknglaaGreat.Jn
set_option maxRecDepth 100000
set_option linter.unusedSimpArgs false
set_option linter.unusedVariables false
open Go.Proofs.YtmhjddmamknglaaGreat

abbrev Bs := List UInt8
abbrev St := List (List UInt8)
structure Ok (st : St) : Prop where
  big : 32 < st.length
  all : ∀ x ∈ st, x.length = 48
def flat (st : St) : Bs := (st.drop 32).flatten
theorem getD_eq {α : Type} {l : List α} {i : Nat} {d : α} (h : i < l.length) : l.getD i d = l[i] := by simp [List.getD, h]
theorem Ok.at_ {st : St} (h : Ok st) {i : Nat} (hi : i < st.length) : (st.getD i []).length = 48 := by
  rw [getD_eq hi]; exact h.all _ (List.getElem_mem hi)
theorem flatten_length (l : St) (h : ∀ x ∈ l, x.length = 48) : l.flatten.length = 48 * l.length := by
  induction l with
  | nil => rfl
  | cons x l ih =>
    rw [List.flatten_cons, List.length_append, ih (fun y hy => h y (List.mem_cons_of_mem _ hy)), h x List.mem_cons_self, List.length_cons]
    omega
theorem flatten_at (l : St) (h : ∀ x ∈ l, x.length = 48) (a : Nat) (ha : a < 48 * l.length) : l.flatten.getD a 0 = (l.getD (a / 48) []).getD (a % 48) 0 := by
  induction l generalizing a with
  | nil => simp at ha
  | cons x l ih =>
    have hx := h x List.mem_cons_self
    rw [List.length_cons] at ha
    rw [List.flatten_cons]
    by_cases e : a < 48
    · rw [Nat.div_eq_of_lt e, Nat.mod_eq_of_lt e]
      simp only [List.getD, List.getElem?_cons_zero, Option.getD_some]
      rw [List.getElem?_append_left (by omega)]
    · have h1 : a / 48 = (a - 48) / 48 + 1 := by omega
      have h2 : a % 48 = (a - 48) % 48 := by omega
      rw [h1, h2]
      have := ih (fun y hy => h y (List.mem_cons_of_mem _ hy)) (a - 48) (by omega)
      simp only [List.getD, List.getElem?_cons_succ] at this ⊢
      rw [List.getElem?_append_right (by omega), hx]
      exact this
theorem ext_getD {l r : Bs} (h : l.length = r.length) (he : ∀ a, a < l.length → l.getD a 0 = r.getD a 0) : l = r := by
  apply List.ext_getElem h
  intro a h1 h2
  have := he a h1
  rwa [getD_eq h1, getD_eq h2] at this
theorem Ok.drop {st : St} (h : Ok st) (k : Nat) : ∀ x ∈ st.drop k, x.length = 48 := fun x hx => h.all x (List.mem_of_mem_drop hx)
theorem Ok.flat_length {st : St} (h : Ok st) : (flat st).length = 48 * (st.length - 32) := by
  unfold flat
  rw [flatten_length _ (h.drop 32), List.length_drop]
theorem getD_drop (st : St) (k i : Nat) : (st.drop k).getD i [] = st.getD (k + i) [] := by simp [List.getD, List.getElem?_drop]
theorem Ok.flat_at {st : St} (h : Ok st) {a : Nat} (ha : a < 48 * (st.length - 32)) : (flat st).getD a 0 = (st.getD (32 + a / 48) []).getD (a % 48) 0 := by
  unfold flat
  rw [flatten_at _ (h.drop 32) a (by rw [List.length_drop]; exact ha), getD_drop]
theorem Ok.set {st : St} (h : Ok st) (i : Nat) {b : Bs} (hb : b.length = 48) : Ok (st.set i b) :=
  ⟨by rw [List.length_set]; exact h.big, fun x hx => by
    rcases List.mem_or_eq_of_mem_set hx with hx | rfl
    · exact h.all x hx
    · exact hb⟩
theorem getD_setS (st : St) (i j : Nat) (b : Bs) (hi : i < st.length) : (st.set i b).getD j [] = if j = i then b else st.getD j [] := Pg.getD_set st i j b [] hi
/-- A write ahead of the space. -/
theorem Ok.flat_low {st : St} (h : Ok st) {i : Nat} (hi : i < 32) {b : Bs} (hb : b.length = 48) : flat (st.set i b) = flat st := by
  have hbig := h.big
  apply ext_getD
  · rw [(h.set i hb).flat_length, h.flat_length, List.length_set]
  · intro a ha
    rw [(h.set i hb).flat_length, List.length_set] at ha
    rw [(h.set i hb).flat_at (by rw [List.length_set]; exact ha), h.flat_at ha, getD_setS _ _ _ _ (by omega), if_neg (by omega)]
/-- .. and within it. -/
theorem Ok.flat_set {st : St} (h : Ok st) {i : Nat} (h1 : 32 ≤ i) (h2 : i < st.length) {b : Bs} (hb : b.length = 48) {a : Nat} (ha : a < 48 * (st.length - 32)) : (flat (st.set i b)).getD a 0 = if 32 + a / 48 = i then b.getD (a % 48) 0 else (flat st).getD a 0 := by
  rw [(h.set i hb).flat_at (by rw [List.length_set]; exact ha), getD_setS _ _ _ _ h2]
  split
  · rfl
  · rw [h.flat_at ha]
/-! Bytes that are changed. -/
abbrev Pr := List (Nat × UInt8)
def appB (P : Pr) (bs : Bs) : Bs := P.foldl (fun b p => b.set p.1 p.2) bs
theorem appB_nil (bs : Bs) : appB [] bs = bs := rfl
theorem appB_cons (p : Nat × UInt8) (P : Pr) (bs : Bs) : appB (p :: P) bs = appB P (bs.set p.1 p.2) := rfl
theorem appB_append (P Q : Pr) (bs : Bs) : appB (P ++ Q) bs = appB Q (appB P bs) := by unfold appB; rw [List.foldl_append]
theorem appB_length (P : Pr) (bs : Bs) : (appB P bs).length = bs.length := by
  induction P generalizing bs with
  | nil => rfl
  | cons p P ih => rw [appB_cons, ih, List.length_set]
theorem setB_at (bs : Bs) (a b : Nat) (x : UInt8) (ha : a < bs.length) : (bs.set a x).getD b 0 = if b = a then x else bs.getD b 0 := Pg.getD_set bs a b x 0 ha
theorem setB_other (bs : Bs) {a b : Nat} (x : UInt8) (h : b ≠ a) : (bs.set a x).getD b 0 = bs.getD b 0 := by
  simp only [List.getD]
  rw [List.getElem?_set_ne (by omega)]
/-- What is not touched. -/
theorem appB_other (P : Pr) (bs : Bs) (a : Nat) (h : ∀ p ∈ P, p.1 ≠ a) : (appB P bs).getD a 0 = bs.getD a 0 := by
  induction P generalizing bs with
  | nil => rfl
  | cons p P ih =>
    rw [appB_cons, ih _ (fun q hq => h q (List.mem_cons_of_mem _ hq)), setB_other _ _ (fun e => h p List.mem_cons_self e.symm)]
/-- Where the changes go, it does not matter what was there. -/
theorem appB_same (P : Pr) (bs cs : Bs) (hl : bs.length = cs.length) (h : ∀ a, a < bs.length → (∀ p ∈ P, p.1 ≠ a) → bs.getD a 0 = cs.getD a 0) : appB P bs = appB P cs := by
  induction P generalizing bs cs with
  | nil => exact ext_getD hl (fun a ha => h a ha (fun p hp => by cases hp))
  | cons p P ih =>
    rw [appB_cons, appB_cons]
    refine ih _ _ (by rw [List.length_set, List.length_set]; exact hl) (fun a ha hP => ?_)
    rw [List.length_set] at ha
    by_cases e : a = p.1
    · subst e
      rw [setB_at _ _ _ _ ha, setB_at _ _ _ _ (by omega), if_pos rfl, if_pos rfl]
    · rw [setB_other _ _ e, setB_other _ _ e]
      refine h a ha (fun q hq => ?_)
      rcases List.mem_cons.1 hq with rfl | hq
      · exact fun e2 => e e2.symm
      · exact hP q hq
/-- Page i of the space's bytes. -/
def pg (bs : Bs) (i : Nat) : Bs := (bs.drop (48 * (i - 32))).take 48
theorem pg_length {bs : Bs} {n i : Nat} (h : bs.length = 48 * n) (h1 : 32 ≤ i) (h2 : i - 32 < n) : (pg bs i).length = 48 := by
  unfold pg
  rw [List.length_take, List.length_drop, h]
  omega
theorem pg_at (bs : Bs) (i k : Nat) (hk : k < 48) : (pg bs i).getD k 0 = bs.getD (48 * (i - 32) + k) 0 := by
  unfold pg
  simp only [List.getD]
  rw [List.getElem?_take, if_pos hk, List.getElem?_drop]
theorem Ok.pg_flat {st : St} (h : Ok st) {i : Nat} (h1 : 32 ≤ i) (h2 : i < st.length) : st.getD i [] = pg (flat st) i := by
  have hl := pg_length h.flat_length h1 (by omega)
  apply ext_getD
  · rw [hl, h.at_ h2]
  · intro a ha
    rw [h.at_ h2] at ha
    rw [pg_at _ _ _ ha, h.flat_at (by omega)]
    rw [show (48 * (i - 32) + a) / 48 = i - 32 by omega, show (48 * (i - 32) + a) % 48 = a by omega, show 32 + (i - 32) = i by omega]
theorem pg_set {bs : Bs} {n : Nat} (hl : bs.length = 48 * n) {a : Nat} (ha : a < 48 * n) (x : UInt8) : pg (bs.set a x) (32 + a / 48) = (pg bs (32 + a / 48)).set (a % 48) x := by
  have hl2 : (bs.set a x).length = 48 * n := by rw [List.length_set]; exact hl
  have hp := pg_length (i := 32 + a / 48) hl (by omega) (by omega)
  apply ext_getD
  · rw [pg_length hl2 (by omega) (by omega), List.length_set, hp]
  · intro k hk
    rw [pg_length hl2 (by omega) (by omega)] at hk
    rw [pg_at _ _ _ hk, setB_at _ _ _ _ (by omega), setB_at _ _ _ _ (by rw [hp]; omega), pg_at _ _ _ hk]
    by_cases e : k = a % 48
    · rw [if_pos e, if_pos (by omega)]
    · rw [if_neg e, if_neg (by omega)]
theorem pg_set_other {bs : Bs} {n : Nat} (hl : bs.length = 48 * n) {a i : Nat} (h1 : 32 ≤ i) (h2 : i - 32 < n) (hi : i ≠ 32 + a / 48) (x : UInt8) : pg (bs.set a x) i = pg bs i := by
  have hl2 : (bs.set a x).length = 48 * n := by rw [List.length_set]; exact hl
  apply ext_getD
  · rw [pg_length hl2 h1 h2, pg_length hl h1 h2]
  · intro k hk
    rw [pg_length hl2 h1 h2] at hk
    rw [pg_at _ _ _ hk, pg_at _ _ _ hk, setB_other _ _ (by omega)]
/-- The pages that are touched, in order. -/
def ordN (o : List Nat) (p : Nat × UInt8) : List Nat := if 32 + p.1 / 48 ∈ o then o else o ++ [32 + p.1 / 48]
def ord (P : Pr) : List Nat := P.foldl ordN []
theorem ord_append (P Q : Pr) : ord (P ++ Q) = Q.foldl ordN (ord P) := by unfold ord; rw [List.foldl_append]
theorem ord_snoc (P : Pr) (p : Nat × UInt8) : ord (P ++ [p]) = ordN (ord P) p := by rw [ord_append]; rfl
theorem ord_mem (P : Pr) (i : Nat) : i ∈ ord P ↔ ∃ p ∈ P, i = 32 + p.1 / 48 := by
  have key : ∀ (P : Pr) (o : List Nat), i ∈ P.foldl ordN o ↔ i ∈ o ∨ ∃ p ∈ P, i = 32 + p.1 / 48 := by
    intro P
    induction P with
    | nil => intro o; simp
    | cons p P ih =>
      intro o
      rw [List.foldl_cons, ih]
      have h1 : i ∈ ordN o p ↔ i ∈ o ∨ i = 32 + p.1 / 48 := by
        unfold ordN
        split
        · rename_i h; exact ⟨.inl, fun h2 => h2.elim id (fun e => e ▸ h)⟩
        · rw [List.mem_append, List.mem_singleton]
      rw [h1]
      simp only [List.mem_cons, exists_eq_or_imp, or_assoc]
  have := key P []
  simpa [ord] using this
theorem ord_nodup (P : Pr) : (ord P).Nodup := by
  have key : ∀ (P : Pr) (o : List Nat), o.Nodup → (P.foldl ordN o).Nodup := by
    intro P
    induction P with
    | nil => intro o h; exact h
    | cons p P ih =>
      intro o h
      rw [List.foldl_cons]
      refine ih _ ?_
      unfold ordN
      split
      · exact h
      · rename_i h2
        rw [List.nodup_append]
        exact ⟨h, by simp, fun x hx y hy e => h2 (by simp at hy; rw [← hy, ← e]; exact hx)⟩
  exact key P [] List.nodup_nil
theorem ord_lt {P : Pr} {n : Nat} (h : ∀ p ∈ P, p.1 < 48 * n) : ∀ i ∈ ord P, 32 ≤ i ∧ i < 32 + n := fun i hi => by
  obtain ⟨p, hp, rfl⟩ := (ord_mem P i).1 hi
  have := h p hp
  omega
theorem nodup_le : ∀ (n : Nat) (l : List Nat), l.Nodup → (∀ i ∈ l, i < n) → l.length ≤ n := by
  intro n l hn h
  have h1 := Pg.sub_length l (List.range n) hn (fun i hi => List.mem_range.2 (h i hi))
  simpa using h1
/-- Pages that are written, one after the other. -/
def stM (st : St) (F : Bs) (os : List Nat) : St := os.foldl (fun s i => s.set i (pg F i)) st
theorem stM_snoc (st : St) (F : Bs) (os : List Nat) (i : Nat) : stM st F (os ++ [i]) = (stM st F os).set i (pg F i) := by unfold stM; rw [List.foldl_append]; rfl
theorem stM_length (st : St) (F : Bs) (os : List Nat) : (stM st F os).length = st.length := by
  unfold stM
  induction os generalizing st with
  | nil => rfl
  | cons i os ih => rw [List.foldl_cons, ih, List.length_set]
section
variable {st : St} {F : Bs} {P : Pr}
theorem stM_ok (h : Ok st) (hF : F.length = 48 * (st.length - 32)) (os : List Nat) (ho : ∀ i ∈ os, 32 ≤ i ∧ i < st.length) : Ok (stM st F os) := by
  unfold stM
  induction os generalizing st with
  | nil => exact h
  | cons i os ih =>
    rw [List.foldl_cons]
    have hi := ho i List.mem_cons_self
    exact ih (h.set i (pg_length hF hi.1 (by omega))) (by rw [List.length_set]; exact hF) (fun j hj => by rw [List.length_set]; exact ho j (List.mem_cons_of_mem _ hj))
theorem stM_low (st : St) (F : Bs) (os : List Nat) (ho : ∀ i ∈ os, 32 ≤ i) {j : Nat} (hj : j < 32) : (stM st F os).getD j [] = st.getD j [] := by
  unfold stM
  induction os generalizing st with
  | nil => rfl
  | cons i os ih =>
    rw [List.foldl_cons, ih _ (fun k hk => ho k (List.mem_cons_of_mem _ hk))]
    simp only [List.getD]
    rw [List.getElem?_set_ne (by have := ho i List.mem_cons_self; omega)]
theorem stM_at (h : Ok st) (hF : F.length = 48 * (st.length - 32)) (os : List Nat) (ho : ∀ i ∈ os, 32 ≤ i ∧ i < st.length) {a : Nat} (ha : a < 48 * (st.length - 32)) : (flat (stM st F os)).getD a 0 = if 32 + a / 48 ∈ os then F.getD a 0 else (flat st).getD a 0 := by
  have key : ∀ n, ∀ os : List Nat, os.length = n → (∀ i ∈ os, 32 ≤ i ∧ i < st.length) → (flat (stM st F os)).getD a 0 = if 32 + a / 48 ∈ os then F.getD a 0 else (flat st).getD a 0 := by
    intro n
    induction n with
    | zero => intro os hn _; obtain rfl := List.eq_nil_of_length_eq_zero hn; rfl
    | succ n ih =>
      intro os hn ho
      have hne : os ≠ [] := by intro e; rw [e] at hn; cases hn
      obtain ⟨r, i, rfl⟩ : ∃ r i, os = r ++ [i] := ⟨os.dropLast, os.getLast hne, (List.dropLast_concat_getLast hne).symm⟩
      have hr : r.length = n := by rw [List.length_append] at hn; simpa using hn
      have hor : ∀ j ∈ r, 32 ≤ j ∧ j < st.length := fun j hj => ho j (List.mem_append_left _ hj)
      have hi := ho i (by simp)
      have hok := stM_ok h hF r hor
      rw [stM_snoc, hok.flat_set hi.1 (by rw [stM_length]; exact hi.2) (pg_length hF hi.1 (by omega)) (by rw [stM_length]; exact ha), ih r hr hor]
      by_cases e : 32 + a / 48 = i
      · rw [if_pos e, if_pos (by rw [e]; simp), pg_at _ _ _ (by omega)]
        rw [show 48 * (i - 32) + a % 48 = a by omega]
      · rw [if_neg e]
        have : (32 + a / 48 ∈ r ++ [i]) ↔ 32 + a / 48 ∈ r := by rw [List.mem_append, List.mem_singleton]; exact ⟨fun h => h.resolve_right e, .inl⟩
        simp only [this]
  exact key _ os rfl ho
/-- The changes made in part: made again they give the same. -/
theorem stM_again (h : Ok st) (hP : ∀ p ∈ P, p.1 < 48 * (st.length - 32)) (os : List Nat) (ho : ∀ i ∈ os, i ∈ ord P) : appB P (flat (stM st (appB P (flat st)) os)) = appB P (flat st) := by
  have hF : (appB P (flat st)).length = 48 * (st.length - 32) := by rw [appB_length]; exact h.flat_length
  have hol : ∀ i ∈ os, 32 ≤ i ∧ i < st.length := fun i hi => by have := ord_lt hP i (ho i hi); have := h.big; omega
  have hok := stM_ok h hF os hol
  have hl : (flat (stM st (appB P (flat st)) os)).length = (flat st).length := by rw [hok.flat_length, h.flat_length, stM_length]
  refine appB_same P _ _ hl (fun a ha hna => ?_)
  rw [hl, h.flat_length] at ha
  rw [stM_at h hF os hol ha]
  split
  · exact appB_other P _ a hna
  · rfl
/-- .. and made in whole. -/
theorem stM_all (h : Ok st) (hP : ∀ p ∈ P, p.1 < 48 * (st.length - 32)) : flat (stM st (appB P (flat st)) (ord P)) = appB P (flat st) := by
  have hF : (appB P (flat st)).length = 48 * (st.length - 32) := by rw [appB_length]; exact h.flat_length
  have hol : ∀ i ∈ ord P, 32 ≤ i ∧ i < st.length := fun i hi => by have := ord_lt hP i hi; have := h.big; omega
  have hok := stM_ok h hF (ord P) hol
  apply ext_getD
  · rw [hok.flat_length, stM_length, hF]
  · intro a ha
    rw [hok.flat_length, stM_length] at ha
    rw [stM_at h hF (ord P) hol ha]
    split
    · rfl
    · rename_i hn
      exact (appB_other P _ a (fun p hp e => hn ((ord_mem P _).2 ⟨p, hp, by rw [e]⟩))).symm
end
end Go.Proofs.YtmhjddmamknglaaGreat.Jn
