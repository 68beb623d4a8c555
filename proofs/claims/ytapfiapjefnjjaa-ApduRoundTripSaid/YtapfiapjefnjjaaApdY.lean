/-
  A command that is encoded is decoded as it was, and bytes that are decoded are encoded as they were: plain.
-/
import Derived.Test.YtapfiapjefnjjaaApdV
namespace Go.Proofs.Ytapfiapjefnjjaa
set_option linter.unusedSimpArgs false
open Go.RowKit

theorem len_one {x : List UInt8} (h : x.length = 1) : ∃ a, x = [a] := by
  match x, h with
  | [a], _ => exact ⟨a, rfl⟩
theorem len_two {x : List UInt8} (h : x.length = 2) : ∃ a b, x = [a, b] := by
  match x, h with
  | [a, b], _ => exact ⟨a, b, rfl⟩
theorem put_num (x : List UInt8) (h : x.length = 1 ∨ x.length = 2) : Oct.putB (Oct.num x) x.length = x := by
  rcases h with h | h
  · obtain ⟨a, rfl⟩ := len_one h
    simp [Oct.putB, Oct.num, Oct.numK]
  · obtain ⟨a, b, rfl⟩ := len_two h
    have ha := a.toNat_lt
    have hb := b.toNat_lt
    have e : Oct.num [a, b] = a.toNat * 256 + b.toNat := by simp [Oct.num, Oct.numK, List.range_succ]
    rw [e]
    show Oct.putB _ 2 = _
    simp only [Oct.putB, List.range_succ, List.range_zero, List.nil_append, List.map_append, List.map_cons, List.map_nil]
    have e1 : (a.toNat * 256 + b.toNat) / 256 ^ (2 - 1 - 0) = a.toNat := by simp; try omega
    have e2 : UInt8.ofNat ((a.toNat * 256 + b.toNat) / 256 ^ (2 - 1 - 1)) = b := by
      apply UInt8.toNat_inj.1
      rw [UInt8.toNat_ofNat']; simp; try omega
    rw [e1, e2]
    simp
/-- A number that Le's bytes denote, and the bytes again. -/
theorem exn_put (q w : Nat) (hw : w = 1 ∨ w = 2) (h1 : 1 ≤ q) (h2 : q ≤ 256 ^ w) : Apd.exn (Oct.putB q w) = q := by
  have hl := Oct.putB_length q w
  unfold Apd.exn
  rw [hl]
  by_cases hq : q < 256 ^ w
  · rw [Oct.num_putB q w hq, if_neg (by omega)]
  · obtain rfl : q = 256 ^ w := by omega
    have : Oct.num (Oct.putB (256 ^ w) w) = 0 := by
      rcases hw with rfl | rfl <;> decide +kernel
    rw [if_pos ⟨this, by omega⟩]
theorem put_exn (x : List UInt8) (h : x.length = 1 ∨ x.length = 2) : 0 < Apd.exn x ∧ Apd.exn x ≤ 256 ^ x.length ∧ Oct.putB (Apd.exn x) x.length = x := by
  have hlt : Oct.num x < 256 ^ x.length := Oct.numK_lt x x.length
  have hp := put_num x h
  unfold Apd.exn
  by_cases hz : Oct.num x = 0
  · rw [if_pos ⟨hz, by omega⟩]
    refine ⟨Nat.pow_pos (by omega), Nat.le_refl _, ?_⟩
    rw [hz] at hp
    rw [← hp, Oct.putB_length]
    rcases h with h | h <;> rw [h] <;> decide +kernel
  · rw [if_neg (fun e => hz e.1)]
    exact ⟨by omega, by omega, hp⟩

/-- What follows the header: the lengths, the data, Le. -/
theorem rst_data (n wd : Nat) (lg : Bool) (d t : List UInt8) (_hw : wd = 1 ∨ wd = 2) (hd : d.length = n) (h0 : 0 < n) (hn : n < 256 ^ wd) (ht : t = [] ∨ t.length = wd) :
    Apd.rst (Oct.putB n wd ++ (d ++ t)) wd lg = (0, d, Apd.exn t) := by
  have hl := Oct.putB_length n wd
  have hlen : (Oct.putB n wd ++ (d ++ t)).length = wd + (n + t.length) := by rw [List.length_append, List.length_append, hl, hd]
  have e1 : (Oct.putB n wd ++ (d ++ t)).take wd = Oct.putB n wd := by rw [List.take_append_of_le_length (by omega), List.take_of_length_le (by omega)]
  have e2 : (Oct.putB n wd ++ (d ++ t)).drop wd = d ++ t := by rw [List.drop_append_of_le_length (by omega), List.drop_of_length_le (by omega), List.nil_append]
  have e3 : (d ++ t).take n = d := by rw [List.take_append_of_le_length (by omega), List.take_of_length_le (by omega)]
  have e4 : (d ++ t).drop n = t := by rw [List.drop_append_of_le_length (by omega), List.drop_of_length_le (by omega), List.nil_append]
  have e5 : (d ++ t).length = n + t.length := by rw [List.length_append, hd]
  have e6 : t.length = 0 ∨ t.length = wd := ht.imp (fun e => by rw [e]; rfl) id
  unfold Apd.rst
  rw [if_neg (by omega), if_neg (by omega), e1, e2, Oct.num_putB n wd hn, if_neg (by omega), if_neg (by omega), if_neg (by omega), e3, e4]

theorem bd_of (x : List UInt8) (h1 : ¬ x.length ≤ 1) (h0 : x.getD 0 0 ≠ 0) : Apd.bdE x = (Apd.rst x 1 false).1 ∧ Apd.bdD x = (Apd.rst x 1 false).2.1 ∧ Apd.bdL x = (Apd.rst x 1 false).2.2 ∧ Apd.bdG x = false := by
  refine ⟨?_, ?_, ?_, ?_⟩
  · unfold Apd.bdE; rw [if_neg h1, if_neg h0]
  · unfold Apd.bdD; rw [if_neg h1, if_neg h0]
  · unfold Apd.bdL; rw [if_neg h1, if_neg h0]
  · unfold Apd.bdG; rw [if_neg h1]; exact beq_eq_false_iff_ne.2 h0
theorem bd_of_long (x : List UInt8) (h1 : ¬ x.length ≤ 1) (h0 : x.getD 0 0 = 0) : Apd.bdE x = (Apd.rst (x.drop 1) 2 true).1 ∧ Apd.bdD x = (Apd.rst (x.drop 1) 2 true).2.1 ∧ Apd.bdL x = (Apd.rst (x.drop 1) 2 true).2.2 ∧ Apd.bdG x = true := by
  refine ⟨?_, ?_, ?_, ?_⟩
  · unfold Apd.bdE; rw [if_neg h1, if_pos h0]
  · unfold Apd.bdD; rw [if_neg h1, if_pos h0]
  · unfold Apd.bdL; rw [if_neg h1, if_pos h0]
  · unfold Apd.bdG; rw [if_neg h1, h0]; rfl

/-- The body of a command: what is written is read. -/
theorem body_back (d : List UInt8) (q : Nat) (long : Bool) (hd : (d.length : Int) ≤ Apd.maxD long) (hq : (q : Int) ≤ Apd.maxL long) (hne : ¬ (long = true ∧ d.length = 0 ∧ q = 0)) :
    let r := (if long then [0] else []) ++ (if 0 < d.length then Oct.putB d.length (Apd.wid long) ++ d else []) ++ (if 0 < q then Oct.putB q (Apd.wid long) else [])
    Apd.bdE r = 0 ∧ Apd.bdD r = d ∧ Apd.bdL r = q ∧ Apd.bdG r = long := by
  intro r
  have ht : (if 0 < q then Oct.putB q (Apd.wid long) else []) = [] ∨ ((if 0 < q then Oct.putB q (Apd.wid long) else [])).length = Apd.wid long := by
    split
    · exact .inr (Oct.putB_length _ _)
    · exact .inl rfl
  have hx : Apd.exn (if 0 < q then Oct.putB q (Apd.wid long) else []) = q := by
    split
    · refine exn_put q _ (by cases long <;> simp [Apd.wid]) (by omega) ?_
      cases long <;> simp only [Apd.maxL_t, Apd.maxL_f] at hq <;> simp only [Apd.wid] <;> simp <;> omega
    · rw [show q = 0 by omega]; rfl
  have hw : Apd.wid long = 1 ∨ Apd.wid long = 2 := by cases long <;> simp [Apd.wid]
  have hdn : d.length < 256 ^ Apd.wid long := by
    cases long <;> simp only [Apd.maxD_t, Apd.maxD_f] at hd <;> simp only [Apd.wid] <;> simp <;> omega
  cases long with
  | false =>
    by_cases h0 : d.length = 0
    · obtain rfl := List.eq_nil_of_length_eq_zero h0
      have er : r = if 0 < q then Oct.putB q 1 else [] := by simp [r, Apd.wid]
      rw [er]
      change Apd.exn (if 0 < q then Oct.putB q 1 else []) = q at hx
      by_cases hq0 : 0 < q
      · rw [if_pos hq0] at hx ⊢
        have h1 : (Oct.putB q 1).length = 1 := Oct.putB_length q 1
        have h2 : (Oct.putB q 1).length ≤ 1 := by omega
        refine ⟨?_, ?_, ?_, ?_⟩
        · unfold Apd.bdE; rw [if_pos h2]
        · unfold Apd.bdD; rw [if_pos h2]
        · unfold Apd.bdL; rw [if_pos h2, if_pos h1, hx]
        · unfold Apd.bdG; rw [if_pos h2]
      · rw [if_neg hq0]
        exact ⟨rfl, rfl, by show 0 = q; omega, rfl⟩
    · have er : r = Oct.putB d.length 1 ++ (d ++ (if 0 < q then Oct.putB q 1 else [])) := by simp [r, Apd.wid, Nat.pos_of_ne_zero h0]
      have hrs := rst_data d.length 1 false d _ (.inl rfl) rfl (by omega) hdn ht
      change Apd.rst (Oct.putB d.length 1 ++ (d ++ (if 0 < q then Oct.putB q 1 else []))) 1 false = _ at hrs
      rw [← er] at hrs
      have hl1 : ¬ r.length ≤ 1 := by rw [er, List.length_append, List.length_append, Oct.putB_length]; omega
      have hg : r.getD 0 0 ≠ 0 := by
        rw [er]
        have : (Oct.putB d.length 1 ++ (d ++ (if 0 < q then Oct.putB q 1 else []))).getD 0 0 = UInt8.ofNat d.length := by simp [Oct.putB]
        rw [this]
        intro e
        have := congrArg UInt8.toNat e
        rw [UInt8.toNat_ofNat'] at this
        simp only [Apd.wid] at hdn
        simp at this hdn
        omega
      obtain ⟨b1, b2, b3, b4⟩ := bd_of r hl1 hg
      rw [b1, b2, b3, b4, hrs]
      exact ⟨rfl, rfl, hx, rfl⟩
  | true =>
    obtain ⟨t, htt⟩ : ∃ t, (if 0 < d.length then Oct.putB d.length 2 ++ d else []) ++ (if 0 < q then Oct.putB q 2 else []) = t := ⟨_, rfl⟩
    have er : r = 0 :: t := by rw [← htt]; simp [r, Apd.wid]
    have hrs : Apd.rst t 2 true = (0, d, q) ∧ 0 < t.length := by
      by_cases h0 : d.length = 0
      · obtain rfl := List.eq_nil_of_length_eq_zero h0
        have hq0 : 0 < q := by
          rcases Nat.eq_zero_or_pos q with h | h
          · exact absurd ⟨rfl, rfl, h⟩ hne
          · exact h
        change Apd.exn (if 0 < q then Oct.putB q 2 else []) = q at hx
        rw [if_pos hq0] at hx
        have et : t = Oct.putB q 2 := by rw [← htt]; simp [hq0]
        have hl2 := Oct.putB_length q 2
        rw [et]
        refine ⟨?_, by omega⟩
        unfold Apd.rst
        rw [if_neg (by omega), if_pos ⟨rfl, hl2⟩, hx]
      · have et : t = Oct.putB d.length 2 ++ (d ++ (if 0 < q then Oct.putB q 2 else [])) := by rw [← htt, if_pos (by omega)]; simp
        have hr2 := rst_data d.length 2 true d _ (.inr rfl) rfl (by omega) hdn ht
        change Apd.rst (Oct.putB d.length 2 ++ (d ++ (if 0 < q then Oct.putB q 2 else []))) 2 true = _ at hr2
        rw [← et] at hr2
        rw [hr2]
        refine ⟨?_, by rw [et, List.length_append, Oct.putB_length]; omega⟩
        change (0, d, Apd.exn (if 0 < q then Oct.putB q 2 else [])) = _
        change Apd.exn (if 0 < q then Oct.putB q 2 else []) = q at hx
        rw [hx]
    obtain ⟨b1, b2, b3, b4⟩ := bd_of_long r (by rw [er, List.length_cons]; omega) (by rw [er]; rfl)
    rw [b1, b2, b3, b4, er, List.drop_one, List.tail_cons, hrs.1]
    exact ⟨rfl, rfl, rfl, rfl⟩

theorem b8_back (x : Int) (h0 : 0 ≤ x) (h1 : x ≤ 255) : ((Apd.b8 x).toNat : Int) = x := by
  unfold Apd.b8
  rw [UInt8.toNat_ofNat']
  have : x.toNat % 2 ^ 8 = x.toNat := Nat.mod_eq_of_lt (by omega)
  rw [this]; omega
/-- A command that is encoded is decoded as it was. -/
theorem enc_dec (cla ins p1 p2 : Int) (d : List UInt8) (le : Int) (long : Bool) (h : Apd.chk cla ins p1 p2 d.length le long = 0) :
    Apd.dcE (Apd.encR cla ins p1 p2 d le long) = 0 ∧ Apd.dcC (Apd.encR cla ins p1 p2 d le long) = ⟨cla, ins, p1, p2, d, le, long⟩ := by
  obtain ⟨⟨r0, r1⟩, ⟨r2, r3⟩, ⟨r4, r5⟩, ⟨r6, r7⟩, r8, r9, r10, r11⟩ := Apd.chk_zero h
  obtain ⟨q, rfl⟩ := Int.eq_ofNat_of_zero_le r9
  have hb := body_back d q long r8 r10 (fun e => r11 ⟨e.1, e.2.1, by rw [e.2.2]; rfl⟩)
  simp only at hb
  have hq : (if 0 < (q : Int) then Oct.putB (q : Int).toNat (Apd.wid long) else []) = (if 0 < q then Oct.putB q (Apd.wid long) else []) := by
    by_cases h0 : 0 < q
    · rw [if_pos (by omega), if_pos h0, Int.toNat_natCast]
    · rw [if_neg (by omega), if_neg h0]
  have hX : Apd.encR cla ins p1 p2 d q long = [Apd.b8 cla, Apd.b8 ins, Apd.b8 p1, Apd.b8 p2] ++ ((if long then [0] else []) ++ (if 0 < d.length then Oct.putB d.length (Apd.wid long) ++ d else []) ++ (if 0 < q then Oct.putB q (Apd.wid long) else [])) := by
    unfold Apd.encR Apd.encB
    rw [if_pos h, hq]
    simp only [List.append_assoc]
  rw [hX]
  generalize ((if long then [0] else []) ++ (if 0 < d.length then Oct.putB d.length (Apd.wid long) ++ d else []) ++ (if 0 < q then Oct.putB q (Apd.wid long) else [])) = r at *
  obtain ⟨e1, e2, e3, e4⟩ := hb
  have hdr : ([Apd.b8 cla, Apd.b8 ins, Apd.b8 p1, Apd.b8 p2] ++ r).drop 4 = r := rfl
  have c0 : Apd.cel ([Apd.b8 cla, Apd.b8 ins, Apd.b8 p1, Apd.b8 p2] ++ r) 0 = cla := b8_back cla r0 (by omega)
  have c1 : Apd.cel ([Apd.b8 cla, Apd.b8 ins, Apd.b8 p1, Apd.b8 p2] ++ r) 1 = ins := b8_back ins r2 r3
  have c2 : Apd.cel ([Apd.b8 cla, Apd.b8 ins, Apd.b8 p1, Apd.b8 p2] ++ r) 2 = p1 := b8_back p1 r4 r5
  have c3 : Apd.cel ([Apd.b8 cla, Apd.b8 ins, Apd.b8 p1, Apd.b8 p2] ++ r) 3 = p2 := b8_back p2 r6 r7
  have hE : Apd.dcE ([Apd.b8 cla, Apd.b8 ins, Apd.b8 p1, Apd.b8 p2] ++ r) = 0 := by
    unfold Apd.dcE
    rw [if_neg (by rw [List.length_append]; simp), hdr, c0, c1, c2, c3, e1, e2, e3, e4, if_neg (fun e => e rfl)]
    exact h
  refine ⟨hE, ?_⟩
  unfold Apd.dcC
  rw [if_pos hE, hdr, c0, c1, c2, c3, e2, e3, e4]

theorem rst_forth (x : List UInt8) (wd : Nat) (lg : Bool) (hw : wd = 1 ∨ wd = 2) (h : (Apd.rst x wd lg).1 = 0) :
    (if 0 < (Apd.rst x wd lg).2.1.length then Oct.putB (Apd.rst x wd lg).2.1.length wd ++ (Apd.rst x wd lg).2.1 else []) ++ (if 0 < (Apd.rst x wd lg).2.2 then Oct.putB (Apd.rst x wd lg).2.2 wd else []) = x := by
  unfold Apd.rst at h ⊢
  by_cases h1 : x.length < wd
  · rw [if_pos h1] at h; exact absurd h (by decide)
  rw [if_neg h1] at h ⊢
  by_cases h2 : lg = true ∧ x.length = wd
  · rw [if_pos h2]
    obtain ⟨p1, p2, p3⟩ := put_exn x (by omega)
    rw [if_neg (by simp), if_pos p1, ← h2.2, p3]; rfl
  rw [if_neg h2] at h ⊢
  by_cases h3 : Oct.num (x.take wd) = 0
  · rw [if_pos h3] at h; exact absurd h (by decide)
  rw [if_neg h3] at h ⊢
  by_cases h4 : (x.drop wd).length < Oct.num (x.take wd)
  · rw [if_pos h4] at h; exact absurd h (by decide)
  rw [if_neg h4] at h ⊢
  by_cases h5 : (x.drop wd).length ≠ Oct.num (x.take wd) ∧ (x.drop wd).length ≠ Oct.num (x.take wd) + wd
  · rw [if_pos h5] at h; exact absurd h (by decide)
  rw [if_neg h5]
  have hl : (x.take wd).length = wd := by rw [List.length_take]; omega
  have hp := put_num (x.take wd) (by omega)
  rw [hl] at hp
  generalize hy : Oct.num (x.take wd) = y at *
  have hD : ((x.drop wd).take y).length = y := by rw [List.length_take]; omega
  show (if 0 < ((x.drop wd).take y).length then Oct.putB ((x.drop wd).take y).length wd ++ (x.drop wd).take y else []) ++ (if 0 < Apd.exn ((x.drop wd).drop y) then Oct.putB (Apd.exn ((x.drop wd).drop y)) wd else []) = x
  rw [hD, if_pos (by omega), hp]
  have ht : ((x.drop wd).drop y).length = 0 ∨ ((x.drop wd).drop y).length = wd := by rw [List.length_drop]; omega
  have hE : (if 0 < Apd.exn ((x.drop wd).drop y) then Oct.putB (Apd.exn ((x.drop wd).drop y)) wd else []) = (x.drop wd).drop y := by
    rcases ht with ht | ht
    · rw [List.eq_nil_of_length_eq_zero ht]; rfl
    · obtain ⟨p1, p2, p3⟩ := put_exn ((x.drop wd).drop y) (by omega)
      rw [ht] at p3
      rw [if_pos p1, p3]
  rw [hE, List.append_assoc, List.take_append_drop, List.take_append_drop]
theorem body_forth (r : List UInt8) (h : Apd.bdE r = 0) :
    (if Apd.bdG r then [0] else []) ++ (if 0 < (Apd.bdD r).length then Oct.putB (Apd.bdD r).length (Apd.wid (Apd.bdG r)) ++ Apd.bdD r else []) ++ (if 0 < Apd.bdL r then Oct.putB (Apd.bdL r) (Apd.wid (Apd.bdG r)) else []) = r := by
  by_cases h1 : r.length ≤ 1
  · have hG : Apd.bdG r = false := by unfold Apd.bdG; rw [if_pos h1]
    have hD : Apd.bdD r = [] := by unfold Apd.bdD; rw [if_pos h1]
    rw [hG, hD]
    by_cases h2 : r.length = 1
    · have hL : Apd.bdL r = Apd.exn r := by unfold Apd.bdL; rw [if_pos h1, if_pos h2]
      obtain ⟨p1, p2, p3⟩ := put_exn r (.inl h2)
      rw [hL, if_pos p1]
      rw [h2] at p3
      simpa [Apd.wid] using p3
    · have hL : Apd.bdL r = 0 := by unfold Apd.bdL; rw [if_pos h1, if_neg h2]
      rw [hL, List.eq_nil_of_length_eq_zero (show r.length = 0 by omega)]
      rfl
  · by_cases h0 : r.getD 0 0 = 0
    · obtain ⟨b1, b2, b3, b4⟩ := bd_of_long r h1 h0
      rw [b1] at h
      have := rst_forth (r.drop 1) 2 true (.inr rfl) h
      rw [b2, b3, b4, List.append_assoc]
      change [0] ++ _ = r
      rw [show Apd.wid true = 2 from rfl, this]
      match r, h1 with
      | x :: y :: l, _ => 
        simp at h0
        rw [h0]; rfl
    · obtain ⟨b1, b2, b3, b4⟩ := bd_of r h1 h0
      rw [b1] at h
      have := rst_forth r 1 false (.inl rfl) h
      rw [b2, b3, b4]
      exact this
/-- Bytes that are decoded are encoded as they were. -/
theorem dec_enc (b : List UInt8) (h : Apd.dcE b = 0) :
    Apd.chk (Apd.dcC b).cla (Apd.dcC b).ins (Apd.dcC b).p1 (Apd.dcC b).p2 (Apd.dcC b).d.length (Apd.dcC b).le (Apd.dcC b).long = 0 ∧ Apd.encR (Apd.dcC b).cla (Apd.dcC b).ins (Apd.dcC b).p1 (Apd.dcC b).p2 (Apd.dcC b).d (Apd.dcC b).le (Apd.dcC b).long = b := by
  have hC : Apd.dcC b = ⟨Apd.cel b 0, Apd.cel b 1, Apd.cel b 2, Apd.cel b 3, Apd.bdD (b.drop 4), (Apd.bdL (b.drop 4) : Int), Apd.bdG (b.drop 4)⟩ := if_pos h
  rw [hC]
  simp only
  unfold Apd.dcE at h
  by_cases h4 : b.length < 4
  · rw [if_pos h4] at h; exact absurd h (by decide)
  rw [if_neg h4] at h
  by_cases hb : Apd.bdE (b.drop 4) = 0
  case neg => rw [if_pos hb] at h; exact absurd h hb
  rw [if_neg (fun e => e hb)] at h
  refine ⟨h, ?_⟩
  unfold Apd.encR Apd.encB
  rw [if_pos h]
  have hf := body_forth (b.drop 4) hb
  have hq : (if 0 < (Apd.bdL (b.drop 4) : Int) then Oct.putB (Apd.bdL (b.drop 4) : Int).toNat (Apd.wid (Apd.bdG (b.drop 4))) else []) = (if 0 < Apd.bdL (b.drop 4) then Oct.putB (Apd.bdL (b.drop 4)) (Apd.wid (Apd.bdG (b.drop 4))) else []) := by
    by_cases h0 : 0 < Apd.bdL (b.drop 4)
    · rw [if_pos (by omega), if_pos h0, Int.toNat_natCast]
    · rw [if_neg (by omega), if_neg h0]
  rw [hq, List.append_assoc, List.append_assoc]
  rw [List.append_assoc] at hf
  rw [hf]
  match b, h4 with
  | x0 :: x1 :: x2 :: x3 :: l, _ =>
    have hx : ∀ x : UInt8, Apd.b8 (x.toNat : Int) = x := fun x => by unfold Apd.b8; simp
    show [Apd.b8 (x0.toNat : Int), Apd.b8 (x1.toNat : Int), Apd.b8 (x2.toNat : Int), Apd.b8 (x3.toNat : Int)] ++ l = _
    rw [hx, hx, hx, hx]; rfl
  | [], h4 => exact absurd h4 (by simp)
  | [_], h4 => exact absurd h4 (by simp)
  | [_, _], h4 => exact absurd h4 (by simp)
  | [_, _, _], h4 => exact absurd h4 (by simp)
end Go.Proofs.Ytapfiapjefnjjaa
