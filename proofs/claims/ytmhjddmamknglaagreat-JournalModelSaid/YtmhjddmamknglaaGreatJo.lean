/-
  The journal, plain: numbers, the log, and what the pages mean.
-/
import Derived.Test.YtmhjddmamknglaaGreatJn
namespace Go.Proofs.YtmhjddmamknglaaGreat.Jn
set_option maxRecDepth 100000
set_option linter.unusedSimpArgs false
set_option linter.unusedVariables false
open Go.Proofs.YtmhjddmamknglaaGreat

def num (b : Bs) : Nat := b.foldl (fun n x => n * 256 + x.toNat) 0
theorem num_acc (b : Bs) (n : Nat) : b.foldl (fun n x => n * 256 + x.toNat) n = n * 256 ^ b.length + num b := by
  unfold num
  induction b generalizing n with
  | nil => simp
  | cons x b ih =>
    rw [List.foldl_cons, List.foldl_cons, ih (n * 256 + x.toNat), ih (0 * 256 + x.toNat), List.length_cons, Nat.pow_succ]
    have e : (n * 256 + x.toNat) * 256 ^ b.length = n * (256 ^ b.length * 256) + x.toNat * 256 ^ b.length := by
      rw [Nat.add_mul, Nat.mul_assoc, Nat.mul_comm 256]
    rw [e, Nat.zero_mul, Nat.zero_add, Nat.add_assoc]
theorem num_cons (x : UInt8) (b : Bs) : num (x :: b) = x.toNat * 256 ^ b.length + num b := by
  have := num_acc b (0 * 256 + x.toNat)
  unfold num at this ⊢
  rw [List.foldl_cons, this]
  simp
theorem num_snoc (b : Bs) (x : UInt8) : num (b ++ [x]) = num b * 256 + x.toNat := by unfold num; rw [List.foldl_append]; rfl
theorem num_lt (b : Bs) : num b < 256 ^ b.length := by
  induction b with
  | nil => decide
  | cons x b ih =>
    rw [num_cons, List.length_cons, Nat.pow_succ]
    have := x.toNat_lt
    have h1 : x.toNat * 256 ^ b.length ≤ 255 * 256 ^ b.length := Nat.mul_le_mul_right _ (by omega)
    generalize 256 ^ b.length = P at *
    generalize x.toNat * P = A at *
    omega
theorem num_zeros (n : Nat) : num (List.replicate n 0) = 0 := by
  induction n with
  | zero => rfl
  | succ n ih => rw [List.replicate_succ, num_cons, ih]; simp
def bytesOf (n w : Nat) : Bs := (List.range w).map fun i => UInt8.ofNat (n / 256 ^ (w - 1 - i))
theorem bytesOf_length (n w : Nat) : (bytesOf n w).length = w := by simp [bytesOf]
theorem bytesOf_succ (n w : Nat) : bytesOf n (w + 1) = UInt8.ofNat (n / 256 ^ w) :: bytesOf n w := by
  unfold bytesOf
  rw [List.range_succ_eq_map, List.map_cons, List.map_map]
  congr 1
  apply List.map_congr_left
  intro i _
  show UInt8.ofNat (n / 256 ^ (w + 1 - 1 - (i + 1))) = _
  rw [show w + 1 - 1 - (i + 1) = w - 1 - i by omega]
theorem num_bytesOf (n w : Nat) : num (bytesOf n w) = n % 256 ^ w := by
  induction w with
  | zero => rw [Nat.pow_zero, Nat.mod_one]; rfl
  | succ w ih =>
    rw [bytesOf_succ, num_cons, bytesOf_length, ih, Nat.mod_pow_succ]
    have e : (UInt8.ofNat (n / 256 ^ w)).toNat = n / 256 ^ w % 256 := by rw [UInt8.toNat_ofNat']
    rw [e, Nat.mul_comm (256 ^ w)]
    omega
theorem num_bytesOf_lt {n w : Nat} (h : n < 256 ^ w) : num (bytesOf n w) = n := by rw [num_bytesOf, Nat.mod_eq_of_lt h]
structure C where
  off : Nat
  data : Bs
def C.pairs (c : C) : Pr := (List.range c.data.length).map fun k => (c.off + k, c.data.getD k 0)
def pairs (l : List C) : Pr := l.flatMap C.pairs
def encC (c : C) : Bs := bytesOf c.off 6 ++ (bytesOf c.data.length 2 ++ c.data)
def enc (l : List C) : Bs := l.flatMap encC
theorem encC_length (c : C) : (encC c).length = 8 + c.data.length := by simp [encC, bytesOf_length]; omega
theorem enc_cons (c : C) (l : List C) : enc (c :: l) = encC c ++ enc l := by simp [enc]
theorem enc_append (l r : List C) : enc (l ++ r) = enc l ++ enc r := by simp [enc]
def weight (l : List C) : Nat := (l.map fun c => 8 + c.data.length).sum
theorem enc_length (l : List C) : (enc l).length = weight l := by
  induction l with
  | nil => rfl
  | cons c l ih => rw [enc_cons, List.length_append, encC_length, ih]; simp [weight]
theorem pairs_append (l r : List C) : pairs (l ++ r) = pairs l ++ pairs r := by simp [pairs]
theorem pairs_mem {l : List C} {p : Nat × UInt8} (h : p ∈ pairs l) : ∃ c ∈ l, c.off ≤ p.1 ∧ p.1 < c.off + c.data.length := by
  obtain ⟨c, hc, hp⟩ := List.mem_flatMap.1 h
  obtain ⟨k, hk, rfl⟩ := List.mem_map.1 hp
  have := List.mem_range.1 hk
  exact ⟨c, hc, by simp only; omega, by simp only; omega⟩
/-- Changes that lie within a space of n bytes. -/
def Within (n : Nat) (l : List C) : Prop := ∀ c ∈ l, c.off + c.data.length ≤ n
theorem Within.pairs {n : Nat} {l : List C} (h : Within n l) : ∀ p ∈ pairs l, p.1 < n := fun p hp => by
  obtain ⟨c, hc, h1, h2⟩ := pairs_mem hp
  have := h c hc
  omega
/-- The log of the pages: pages 1 and so on. -/
def logOf (st : St) : Bs := (st.drop 1).flatten
def headOf (st : St) : Nat := num ((st.getD 0 []).take 8)
structure Logged (st : St) (l : List C) : Prop where
  head : headOf st = (enc l).length
  log : ∀ k, k < (enc l).length → (logOf st).getD k 0 = (enc l).getD k 0
  pos : 0 < (enc l).length
  le : (enc l).length ≤ 1024
  inn : Within (48 * (st.length - 32)) l
/-- What the pages mean: the bytes of the space. -/
structure Clean (st : St) (S : Bs) : Prop where
  ok : Ok st
  head : headOf st = 0
  flat : flat st = S
def Means (st : St) (S : Bs) : Prop := Clean st S ∨ (Ok st ∧ ∃ l, Logged st l ∧ appB (pairs l) (flat st) = S)
theorem Means.ok {st : St} {S : Bs} (h : Means st S) : Ok st := h.elim (·.ok) (·.1)
theorem Clean.means {st : St} {S : Bs} (h : Clean st S) : Means st S := .inl h
theorem headOf_set {st : St} {i : Nat} (hi : 0 < i) (b : Bs) : headOf (st.set i b) = headOf st := by
  unfold headOf
  simp only [List.getD]
  rw [List.getElem?_set_ne (by omega)]
theorem Ok.log_at {st : St} (h : Ok st) {a : Nat} (ha : a < 48 * (st.length - 1)) : (logOf st).getD a 0 = (st.getD (1 + a / 48) []).getD (a % 48) 0 := by
  unfold logOf
  rw [flatten_at _ (h.drop 1) a (by rw [List.length_drop]; exact ha), getD_drop]
/-- A page of the log is written: nothing has changed. -/
theorem Clean.log {st : St} {S : Bs} (h : Clean st S) {i : Nat} (h1 : 0 < i) (h2 : i < 32) {b : Bs} (hb : b.length = 48) : Clean (st.set i b) S :=
  ⟨h.ok.set i hb, by rw [headOf_set h1]; exact h.head, by rw [h.ok.flat_low h2 hb]; exact h.flat⟩
/-- k bytes of E lie in the log. -/
def LogK (st : St) (E : Bs) (k : Nat) : Prop := ∀ a, a < k → a < E.length → (logOf st).getD a 0 = E.getD a 0
def padB (b : Bs) : Bs := b.take 48 ++ List.replicate (48 - (b.take 48).length) 0
theorem padB_length (b : Bs) : (padB b).length = 48 := by simp [padB]; omega
def pieceOf (E : Bs) (i : Nat) : Bs := padB (E.drop (48 * i))
theorem pad_at (b : Bs) (k : Nat) (h1 : k < b.length) (h2 : k < 48) : (padB b).getD k 0 = b.getD k 0 := by
  unfold padB
  simp only [List.getD]
  rw [List.getElem?_append_left (by rw [List.length_take]; omega), List.getElem?_take, if_pos h2]
theorem LogK.next {st : St} {E : Bs} {i : Nat} (h : LogK st E (48 * i)) (ho : Ok st) (hi : 1 + i < st.length) : LogK (st.set (1 + i) (pieceOf E i)) E (48 * (i + 1)) := fun a ha hE => by
  have hb : (pieceOf E i).length = 48 := padB_length _
  rw [(ho.set _ hb).log_at (by rw [List.length_set]; omega), getD_setS _ _ _ _ hi]
  by_cases e : 1 + a / 48 = 1 + i
  · rw [if_pos e]
    unfold pieceOf
    rw [pad_at _ _ (by rw [List.length_drop]; omega) (by omega)]
    simp only [List.getD]
    rw [List.getElem?_drop, show 48 * i + a % 48 = a by omega]
  · rw [if_neg e, ← ho.log_at (by omega)]
    exact h a (by omega) hE
def headPage (n : Nat) : Bs := bytesOf n 8 ++ List.replicate 40 0
theorem headPage_length (n : Nat) : (headPage n).length = 48 := by simp [headPage, bytesOf_length]
theorem headOf_page {st : St} (h : 0 < st.length) {n : Nat} (hn : n < 2 ^ 63) : headOf (st.set 0 (headPage n)) = n := by
  unfold headOf
  rw [getD_setS _ _ _ _ h, if_pos rfl]
  unfold headPage
  rw [List.take_append_of_le_length (by rw [bytesOf_length]; omega), List.take_of_length_le (by rw [bytesOf_length]; omega)]
  exact num_bytesOf_lt (by have : (2 : Nat) ^ 63 ≤ 256 ^ 8 := by decide
                           omega)
theorem logOf_head (st : St) (b : Bs) : logOf (st.set 0 b) = logOf st := by
  unfold logOf
  cases st with
  | nil => rfl
  | cons x st => rfl
/-- The head is written: from here on the changes count. -/
theorem Clean.begun {st : St} {S : Bs} (h : Clean st S) {l : List C} (hl : LogK st (enc l) (enc l).length) (hp : 0 < (enc l).length) (hle : (enc l).length ≤ 1024) (hw : Within (48 * (st.length - 32)) l) :
    Logged (st.set 0 (headPage (enc l).length)) l ∧ Ok (st.set 0 (headPage (enc l).length)) ∧ Jn.flat (st.set 0 (headPage (enc l).length)) = S := by
  have hb := h.ok.big
  refine ⟨⟨headOf_page (by omega) (by omega), fun k hk => by rw [logOf_head]; exact hl k hk hk, hp, hle, by rw [List.length_set]; exact hw⟩, h.ok.set _ (headPage_length _), ?_⟩
  rw [h.ok.flat_low (by omega) (headPage_length _)]
  exact h.flat
/-- The head is taken away. -/
theorem ended {st : St} {S : Bs} (h : Ok st) (hS : flat st = S) : Clean (st.set 0 (headPage 0)) S := by
  have hb := h.big
  exact ⟨h.set _ (headPage_length _), headOf_page (by omega) (by omega), by rw [h.flat_low (by omega) (headPage_length _)]; exact hS⟩
/-- Pages of the space are written as the log says: all means what it did. -/
theorem Logged.stM {st : St} {l : List C} (h : Logged st l) (ho : Ok st) (F : Bs) (hF : F.length = 48 * (st.length - 32)) (os : List Nat) (hos : ∀ i ∈ os, 32 ≤ i ∧ i < st.length) : Logged (Jn.stM st F os) l := by
  have hlow := fun {j : Nat} (hj : j < 32) => stM_low st F os (fun i hi => (hos i hi).1) hj
  have hb := ho.big
  have hok := stM_ok ho hF os hos
  refine ⟨?_, fun k hk => ?_, h.pos, h.le, by rw [stM_length]; exact h.inn⟩
  · unfold headOf
    rw [hlow (by omega)]
    exact h.head
  · have := h.le
    rw [hok.log_at (by rw [stM_length]; omega), hlow (by omega), ← ho.log_at (by omega)]
    exact h.log k hk
theorem Logged.part {st : St} {l : List C} (h : Logged st l) (ho : Ok st) (os : List Nat) (hos : ∀ i ∈ os, i ∈ ord (pairs l)) : Means (Jn.stM st (appB (pairs l) (flat st)) os) (appB (pairs l) (flat st)) := by
  have hb := ho.big
  have hF : (appB (pairs l) (flat st)).length = 48 * (st.length - 32) := by rw [appB_length]; exact ho.flat_length
  have hol : ∀ i ∈ os, 32 ≤ i ∧ i < st.length := fun i hi => by have := ord_lt h.inn.pairs i (hos i hi); omega
  exact .inr ⟨stM_ok ho hF os hol, l, h.stM ho _ hF os hol, stM_again ho h.inn.pairs os hos⟩
theorem Logged.whole {st : St} {l : List C} (h : Logged st l) (ho : Ok st) : Clean ((Jn.stM st (appB (pairs l) (flat st)) (ord (pairs l))).set 0 (headPage 0)) (appB (pairs l) (flat st)) := by
  have hb := ho.big
  have hF : (appB (pairs l) (flat st)).length = 48 * (st.length - 32) := by rw [appB_length]; exact ho.flat_length
  have hol : ∀ i ∈ ord (pairs l), 32 ≤ i ∧ i < st.length := fun i hi => by have := ord_lt h.inn.pairs i hi; omega
  exact ended (stM_ok ho hF _ hol) (stM_all ho h.inn.pairs)
end Go.Proofs.YtmhjddmamknglaaGreat.Jn
