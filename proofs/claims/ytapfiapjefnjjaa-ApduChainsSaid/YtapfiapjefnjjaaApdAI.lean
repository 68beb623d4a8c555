/-
  A chain, in plain mathematics: its elements are valid, and joined they are the command.
-/
import Derived.Test.YtapfiapjefnjjaaApdAD
import Derived.Test.YtapfiapjefnjjaaApdAG
namespace Go.Proofs.Ytapfiapjefnjjaa
set_option linter.unusedSimpArgs false
open Go.RowKit

theorem pl_ind (m : Nat) (h1 : 1 ≤ m) (Q : List UInt8 → List (List UInt8) → Prop) (h0 : ∀ b, b.length ≤ m → Q b [b]) (hs : ∀ b, m < b.length → Q (b.drop m) (Apd.pl (b.drop m) m) → Q b (b.take m :: Apd.pl (b.drop m) m)) : ∀ (f : Nat) (b : List UInt8), b.length ≤ f → Q b (Apd.pl b m)
  | 0, b, hb => by rw [pl_short b m (by omega)]; exact h0 b (by omega)
  | f + 1, b, hb => by
    by_cases h : b.length ≤ m
    · rw [pl_short b m h]; exact h0 b h
    · rw [pl_cons b m h1 (by omega)]
      exact hs b (by omega) (pl_ind m h1 Q h0 hs f _ (by rw [List.length_drop]; omega))
theorem pl_flat (b : List UInt8) (m : Nat) (h1 : 1 ≤ m) : (Apd.pl b m).flatten = b := by
  refine pl_ind m h1 (fun b l => l.flatten = b) (fun b _ => by simp) (fun b _ ih => ?_) b.length b (Nat.le_refl _)
  rw [List.flatten_cons, ih, List.take_append_drop]
theorem pl_le (b : List UInt8) (m : Nat) (h1 : 1 ≤ m) : ∀ p ∈ Apd.pl b m, p.length ≤ m := by
  refine pl_ind m h1 (fun _ l => ∀ p ∈ l, p.length ≤ m) (fun b hb p hp => by obtain rfl := List.mem_singleton.1 hp; exact hb) (fun b _ ih p hp => ?_) b.length b (Nat.le_refl _)
  rcases List.mem_cons.1 hp with rfl | hp
  · rw [List.length_take]; omega
  · exact ih p hp
/-- Its pieces are not empty, if it is not. -/
theorem pl_pos (b : List UInt8) (m : Nat) (h1 : 1 ≤ m) (h0 : 0 < b.length) : ∀ p ∈ Apd.pl b m, 0 < p.length := by
  refine pl_ind m h1 (fun b l => 0 < b.length → ∀ p ∈ l, 0 < p.length) (fun b _ h p hp => by obtain rfl := List.mem_singleton.1 hp; exact h) (fun b hb ih _ p hp => ?_) b.length b (Nat.le_refl _) h0
  rcases List.mem_cons.1 hp with rfl | hp
  · rw [List.length_take]; omega
  · exact ih (by rw [List.length_drop]; omega) p hp
theorem pl_len (b : List UInt8) (m : Nat) (h1 : 1 ≤ m) : ∀ p ∈ Apd.pl b m, p.length ≤ b.length := by
  refine pl_ind m h1 (fun b l => ∀ p ∈ l, p.length ≤ b.length) (fun b _ p hp => by obtain rfl := List.mem_singleton.1 hp; exact Nat.le_refl _) (fun b _ ih p hp => ?_) b.length b (Nat.le_refl _)
  rcases List.mem_cons.1 hp with rfl | hp
  · rw [List.length_take]; omega
  · have := ih p hp; rw [List.length_drop] at this; omega

/-- The elements of the list: one after another, those ahead of the last, and the last. -/
theorem lst_form (x : Apd.Cmd) (P : List (List UInt8)) (h : P ≠ []) : ∃ Q b, P = Q ++ [b] ∧ Apd.lst x P = Q.map (Apd.mid x) ++ [Apd.fin x b] := by
  rcases List.eq_nil_or_concat P with h0 | ⟨Q, b, h0⟩
  · exact absurd h0 h
  · have h0' : P = Q ++ [b] := by rw [h0]; simp
    exact ⟨Q, b, h0', by rw [h0', Apd.lst_snoc]⟩

section
variable {cla ins p1 p2 : Int} {d : List UInt8} {le : Int} {long : Bool}
theorem chk_mk {n : Nat} (h0 : 0 ≤ cla ∧ cla ≤ 254) (h1 : 0 ≤ ins ∧ ins ≤ 255) (hi6 : ins / 16 ≠ 6) (hi9 : ins / 16 ≠ 9) (h2 : 0 ≤ p1 ∧ p1 ≤ 255) (h3 : 0 ≤ p2 ∧ p2 ≤ 255) (h4 : (n : Int) ≤ Apd.maxD long) (h5 : 0 ≤ le) (h6 : le ≤ Apd.maxL long) (h7 : ¬ (long = true ∧ n = 0 ∧ le = 0)) :
    Apd.chk cla ins p1 p2 n le long = 0 := by
  have b : ∀ x : Int, 0 ≤ x ∧ x ≤ 255 → Apd.byt x = true := fun x h => decide_eq_true h
  unfold Apd.chk
  rw [if_neg (fun e => e ⟨b _ ⟨h0.1, by omega⟩, b _ h1, b _ h2, b _ h3⟩), if_neg (by omega), if_neg (by omega), if_neg (by omega), if_neg h7]
theorem chk_ins (h : Apd.chk cla ins p1 p2 d.length le long = 0) : ins / 16 ≠ 6 ∧ ins / 16 ≠ 9 := by
  unfold Apd.chk at h
  refine ⟨fun e => ?_, fun e => ?_⟩
  all_goals
    split at h
    · exact absurd h (by decide)
    · split at h
      · exact absurd h (by decide)
      · omega
/-- An element ahead of the last. -/
theorem mid_ok (h : Apd.chk cla ins p1 p2 d.length le long = 0) (hk : Apd.cok cla = true) (_hq : cla / 16 % 2 ≠ 1) (b : List UInt8) (hb : b.length ≤ 255) :
    Apd.chk (cla + 16) ins p1 p2 b.length 0 false = 0 ∧ (0 < b.length → Apd.lkE (cla + 16) ins p1 p2 b.length 0 false false = 0) := by
  obtain ⟨r0, r1, r2, r3, -⟩ := Apd.chk_zero h
  obtain ⟨i6, i9⟩ := chk_ins h
  have hh := of_decide_eq_true hk
  have hc : Apd.chk (cla + 16) ins p1 p2 b.length 0 false = 0 := chk_mk (by omega) r1 i6 i9 r2 r3 (by rw [Apd.maxD_f]; omega) (by omega) (by rw [Apd.maxL_f]; omega) (by simp)
  refine ⟨hc, fun h0 => ?_⟩
  have hk2 : Apd.cok (cla + 16) = true := decide_eq_true (by omega)
  have hq2 : ((cla + 16) / 16 % 2 == 1) = true := by rw [beq_iff_eq]; omega
  unfold Apd.lkE
  rw [hc, if_neg (fun e => e rfl), hk2, hq2, if_neg]
  intro e
  rcases e with e | e | ⟨-, e | e⟩
  · cases e
  · cases e
  · omega
  · omega
/-- The last element. -/
theorem fin_ok (h : Apd.chk cla ins p1 p2 d.length le long = 0) (hk : Apd.cok cla = true) (hq : cla / 16 % 2 ≠ 1) (b : List UInt8) (hb : b.length ≤ d.length) (h0 : b.length = 0 → d.length = 0) :
    Apd.chk cla ins p1 p2 b.length le long = 0 ∧ Apd.lkE cla ins p1 p2 b.length le long true = 0 := by
  obtain ⟨r0, r1, r2, r3, r4, r5, r6, r7⟩ := Apd.chk_zero h
  obtain ⟨i6, i9⟩ := chk_ins h
  have hc : Apd.chk cla ins p1 p2 b.length le long = 0 := chk_mk r0 r1 i6 i9 r2 r3 (by omega) r5 r6 (fun e => r7 ⟨e.1, h0 e.2.1, e.2.2⟩)
  refine ⟨hc, ?_⟩
  have hq2 : (cla / 16 % 2 == 1) = false := beq_eq_false_iff_ne.2 hq
  unfold Apd.lkE
  rw [hc, if_neg (fun e => e rfl), hk, hq2, if_neg]
  intro e
  rcases e with e | e | ⟨e, -⟩
  · cases e
  · cases e
  · cases e
theorem hds_mid (hk : Apd.cok cla = true) (_hq : cla / 16 % 2 ≠ 1) (b b' : List UInt8) : Apd.hds (Apd.mid ⟨cla, ins, p1, p2, d, le, long⟩ b) = Apd.hds (Apd.fin ⟨cla, ins, p1, p2, d, le, long⟩ b') := by
  have hh := of_decide_eq_true hk
  have e1 : (cla + 16) % 4 = cla % 4 := by omega
  have e2 : (cla + 16) / 4 % 2 = cla / 4 % 2 := by omega
  have e3 : (cla + 16) / 128 = cla / 128 := by omega
  show ((cla + 16) % 4, (cla + 16) / 4 % 2 == 1, (cla + 16) / 128 == 1, ins, p1, p2) = (cla % 4, cla / 4 % 2 == 1, cla / 128 == 1, ins, p1, p2)
  rw [e1, e2, e3]

theorem frE_zero (l : List Apd.Cmd) : ∀ (g i : Nat), (∀ j, i ≤ j → j < i + g → Apd.stE l j = 0) → Apd.frE l i g = 0
  | 0, _, _ => rfl
  | g + 1, i, h => by
    have h0 := h i (Nat.le_refl _) (by omega)
    unfold Apd.frE
    rw [h0, if_neg (fun e => e rfl)]
    exact frE_zero l g (i + 1) (fun j h1 h2 => h j (by omega) (by omega))
/-- A chain, joined, is the command again; its elements are valid and short. -/
theorem chain_back (m : Nat) (h1 : 1 ≤ m) (hm : m ≤ 255) (h : Apd.chk cla ins p1 p2 d.length le long = 0) (hk : Apd.cok cla = true) (hq : cla / 16 % 2 ≠ 1) :
    Apd.jnE (Apd.lst ⟨cla, ins, p1, p2, d, le, long⟩ (Apd.pl d m)) = 0 ∧ Apd.jnC (Apd.lst ⟨cla, ins, p1, p2, d, le, long⟩ (Apd.pl d m)) = ⟨cla, ins, p1, p2, d, le, long⟩ ∧
      (∀ y ∈ Apd.lst ⟨cla, ins, p1, p2, d, le, long⟩ (Apd.pl d m), y.d.length ≤ m ∧ Apd.chk y.cla y.ins y.p1 y.p2 y.d.length y.le y.long = 0) ∧ Apd.jdat (Apd.lst ⟨cla, ins, p1, p2, d, le, long⟩ (Apd.pl d m)) = d := by
  have hfl := pl_flat d m h1
  have hle := pl_le d m h1
  have hln := pl_len d m h1
  have hpos := pl_pos d m h1
  obtain ⟨Q, b, hP, hL⟩ := lst_form ⟨cla, ins, p1, p2, d, le, long⟩ (Apd.pl d m) (pl_ne d m h1)
  rw [hP] at hfl hle hln hpos
  rw [hL]
  have hbm : b ∈ Q ++ [b] := List.mem_append.2 (.inr (List.mem_singleton.2 rfl))
  have hb0 : b.length = 0 → d.length = 0 := fun e => by
    rcases Nat.eq_zero_or_pos d.length with h0 | h0
    · exact h0
    · have := hpos h0 b hbm; omega
  have hQd : ∀ p ∈ Q, 0 < p.length := fun p hp => by
    have hd0 : 0 < d.length := by
      rcases Nat.eq_zero_or_pos d.length with h0 | h0
      · exfalso
        have : Apd.pl d m = [d] := pl_short d m (by omega)
        rw [hP] at this
        have := congrArg List.length this
        simp at this
        rw [this] at hp; cases hp
      · exact h0
    exact hpos hd0 p (List.mem_append.2 (.inl hp))
  have hfin := fin_ok h hk hq b (hln b hbm) hb0
  have hjd : Apd.jdat (Q.map (Apd.mid ⟨cla, ins, p1, p2, d, le, long⟩) ++ [Apd.fin ⟨cla, ins, p1, p2, d, le, long⟩ b]) = d := by
    refine Eq.trans ?_ hfl
    unfold Apd.jdat
    rw [List.flatMap_append, List.flatten_append, List.flatMap_map]
    simp [Apd.mid, Apd.fin, List.flatMap]
  have hlen : (Q.map (Apd.mid ⟨cla, ins, p1, p2, d, le, long⟩) ++ [Apd.fin ⟨cla, ins, p1, p2, d, le, long⟩ b]).length = Q.length + 1 := by simp
  have hall : ∀ i, i < Q.length + 1 → ∃ y, (Q.map (Apd.mid ⟨cla, ins, p1, p2, d, le, long⟩) ++ [Apd.fin ⟨cla, ins, p1, p2, d, le, long⟩ b])[i]? = some y ∧ Apd.hds y = Apd.hds (Apd.fin ⟨cla, ins, p1, p2, d, le, long⟩ b) ∧ Apd.lkE y.cla y.ins y.p1 y.p2 y.d.length y.le y.long (decide (i + 1 = Q.length + 1)) = 0 := fun i hi => by
    by_cases hlt : i < Q.length
    · refine ⟨Apd.mid ⟨cla, ins, p1, p2, d, le, long⟩ Q[i], by rw [List.getElem?_append_left (by simpa using hlt)]; simp [hlt], hds_mid hk hq _ _, ?_⟩
      have hmem : Q[i] ∈ Q := List.getElem_mem hlt
      rw [show decide (i + 1 = Q.length + 1) = false from decide_eq_false (by omega)]
      exact (mid_ok h hk hq Q[i] (Nat.le_trans (hle _ (List.mem_append.2 (.inl hmem))) hm)).2 (hQd _ hmem)
    · obtain rfl : i = Q.length := by omega
      refine ⟨Apd.fin ⟨cla, ins, p1, p2, d, le, long⟩ b, by rw [List.getElem?_append_right (by simp)]; simp, rfl, ?_⟩
      rw [show decide (Q.length + 1 = Q.length + 1) = true from decide_eq_true rfl]
      exact hfin.2
  have hst : ∀ i, i < Q.length + 1 → Apd.stE (Q.map (Apd.mid ⟨cla, ins, p1, p2, d, le, long⟩) ++ [Apd.fin ⟨cla, ins, p1, p2, d, le, long⟩ b]) i = 0 := fun i hi => by
    obtain ⟨y, e1, e2, e3⟩ := hall i hi
    obtain ⟨f, g1, g2, -⟩ := hall 0 (by omega)
    unfold Apd.stE
    rw [e1, g1]
    simp only
    rw [hlen, e3, if_neg (fun e => e rfl), if_pos (e2.trans g2.symm)]
  obtain ⟨r0, r1, r2, r3, r4, r5, r6, r7⟩ := Apd.chk_zero h
  have hd6 : d.length ≤ 65535 := by cases long <;> simp only [Apd.maxD_t, Apd.maxD_f] at r4 <;> omega
  refine ⟨?_, ?_, ?_, hjd⟩
  · unfold Apd.jnE
    rw [if_neg (by simp), hlen, frE_zero _ _ 0 (fun j _ hj => hst j (by omega)), if_neg (fun e => e rfl), hjd, if_neg (by omega)]
  · unfold Apd.jnC
    rw [List.getLast?_append]
    simp only [List.getLast?_singleton, Option.some_or]
    rw [hjd]
    have hlg : (long || decide (255 < d.length)) = long := by
      cases long with
      | true => rfl
      | false => simp only [Apd.maxD_f] at r4; simp; omega
    show (⟨cla, ins, p1, p2, d, le, long || decide (255 < d.length)⟩ : Apd.Cmd) = _
    rw [hlg]
  · intro y hy
    rcases List.mem_append.1 hy with hy | hy
    · obtain ⟨p, hp, rfl⟩ := List.mem_map.1 hy
      exact ⟨hle p (List.mem_append.2 (.inl hp)), (mid_ok h hk hq p (Nat.le_trans (hle _ (List.mem_append.2 (.inl hp))) hm)).1⟩
    · obtain rfl := List.mem_singleton.1 hy
      exact ⟨hle b hbm, hfin.1⟩
end
end Go.Proofs.Ytapfiapjefnjjaa
