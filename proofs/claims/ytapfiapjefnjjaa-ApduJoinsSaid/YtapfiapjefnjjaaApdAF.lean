/-
  The walk of link.
-/
import Derived.Test.YtapfiapjefnjjaaApdM
namespace Go.Proofs.Ytapfiapjefnjjaa
set_option linter.unusedSimpArgs false
open Go.RowKit

/-- The error of an element of a chain. -/
def Apd.lkE (cla ins p1 p2 : Int) (n : Nat) (le : Int) (long last : Bool) : Int :=
  if Apd.chk cla ins p1 p2 n le long ≠ 0 then Apd.chk cla ins p1 p2 n le long
  else if Apd.cok cla = false ∨ (cla / 16 % 2 == 1) = last ∨ (last = false ∧ (n = 0 ∨ 0 < le)) then 4 else 0
/-- What an element of a chain has in common with the others, by value. -/
def Apd.hdV (cla ins p1 p2 : Int) (n : Nat) (le : Int) (long last : Bool) : Value :=
  if Apd.lkE cla ins p1 p2 n le long last = 0 then .agg #[.int .i64 (cla % 4), .bool (cla / 4 % 2 == 1), .bool false, .bool (cla / 128 == 1), I64 ins, I64 p1, I64 p2] else .agg #[.int .i64 0, .bool false, .bool false, .bool false, .int .i64 0, .int .i64 0, .int .i64 0]
theorem head_one (a b c d : Int) (x y z : Bool) : (#[.int .i64 a, .bool x, .bool y, .bool z, .int .i64 b, .int .i64 c, .int .i64 d] : Array Value).all (·.oneCell') = true := by simp [Value.oneCell']

set_option maxRecDepth 100000 in
set_option maxHeartbeats 16000000 in
theorem apdu_link (cla ins p1 p2 : Int) (A : Option Addr) (n c : Nat) (le : Int) (long last : Bool) (w : World) :
    Calls Try.prog 55 #[cmdV cla ins p1 p2 A n c le long, .bool last] w fun e w' => e = .returned (.tuple #[Apd.hdV cla ins p1 p2 n le long last, .int .i64 (Apd.lkE cla ins p1 p2 n le long last)]) ∧ Below w.heap.size w w' := by
  obtain ⟨T1, T2, T3⟩ := twoB w 24 74 #[I64 cla, I64 ins, I64 p1, I64 p2, .slice A n c, I64 le, .bool long] #[.int .i64 0, .bool false, .bool false, .bool false, .int .i64 0, .int .i64 0, .int .i64 0]
  have HK := Lib.hid T1
  have HR := Lib.hid T2
  have HW := Lib.hid T3
  clear T1 T2 T3
  have hC := fun u => apdu_Check cla ins p1 p2 A n c le long u
  have hE : Apd.lkE cla ins p1 p2 n le long last = if Apd.chk cla ins p1 p2 n le long ≠ 0 then Apd.chk cla ins p1 p2 n le long else if Apd.cok cla = false ∨ (cla / 16 % 2 == 1) = last ∨ (last = false ∧ (n = 0 ∨ 0 < le)) then 4 else 0 := rfl
  have hZ : Apd.chk cla ins p1 p2 n le long = 0 → 0 ≤ le := fun e => (Apd.chk_zero e).2.2.2.2.2.1
  unfold Apd.hdV
  unfold cmdV at hC ⊢
  generalize Apd.lkE cla ins p1 p2 n le long last = ee at *
  generalize Apd.chk cla ins p1 p2 n le long = z at *
  have HC := Lib.hid hC
  clear hC
  by_cases hz : z = 0
  case neg =>
    have he : ee = z := by rw [hE, if_pos hz]
    have hz2 : (z != 0) = true := bne_iff_ne.2 hz
    have HE := Lib.hid he
    have HN := Lib.hid (fun (e0 : ee = 0) => hz (he.symm.trans e0))
    clear he hE hZ
    go_enter Try.func55, Try.ntmps55
    go_wp2_with ((with_reducible show wpList _ _ _ (Oper.mk _ (Op.load 24 (Operand.tmp 2)) _ _ _ _ :: _) _ _); refine wpList_load_row rfl 24 (.tmp 2) rfl w.heap.size rfl 24 _ (0, 0) _ HK.out Try.underlying24 rfl (by kernel_rfl) ?_)
    go_at_call 14
    refine (HC.out _).mono ?_
    rintro e w2 ⟨rfl, b2⟩
    have K2 := HK.out.after b2
    have R2 := HR.out.after b2
    have W2 := bgo HW.out b2
    clear HK HR HW HC b2
    go_wp2_with ((with_reducible show wpList _ _ _ (Oper.mk _ (Op.store 74 (Operand.tmp 4) (Operand.tmp 13)) _ _ _ _ :: _) _ _); refine wpList_store_row rfl 74 (.tmp 4) (.tmp 13) rfl (w.heap.size + 1) #[.int .i64 0, .bool false, .bool false, .bool false, .int .i64 0, .int .i64 0, .int .i64 0] rfl rfl 74 #[.int .i64 0, .bool false, .bool false, .bool false, .int .i64 0, .int .i64 0, .int .i64 0] R2 (by kernel_rfl) rfl (head_one _ _ _ _ _ _ _) ?_)
    refine bodyPost_ret (results_row_tmp rfl _ _ (w.heap.size + 1) 74 _ (0, 0) _ rfl (by exact (R2).setRow _) Try.underlying74 rfl (by kernel_rfl)) rfl ⟨?_, by exact Below.setRow (W2) (Nat.le_succ _) _⟩
    rw [HE.out]
    rfl
  subst hz
  have h0 := hZ rfl
  clear hZ
  rw [if_neg (fun e => e rfl)] at hE
  have hCl := fun u => apdu_Class cla u
  cases hk : Apd.cok cla with
  | false =>
    have he : ee = 4 := by rw [hE, if_pos (.inl hk)]
    subst he
    have e3 : Apd.clsV cla = infoV 0 false false false := by unfold Apd.clsV; rw [hk]; rfl
    rw [e3, hk] at hCl
    unfold infoV at hCl
    have HCl := Lib.hid hCl
    clear e3 hk hE hCl
    go_enter Try.func55, Try.ntmps55
    go_wp2_with ((with_reducible show wpList _ _ _ (Oper.mk _ (Op.load 24 (Operand.tmp 2)) _ _ _ _ :: _) _ _); refine wpList_load_row rfl 24 (.tmp 2) rfl w.heap.size rfl 24 _ (0, 0) _ HK.out Try.underlying24 rfl (by kernel_rfl) ?_)
    go_at_call 14
    refine (HC.out _).mono ?_
    rintro e w2 ⟨rfl, b2⟩
    have K2 := HK.out.after b2
    have R2 := HR.out.after b2
    have W2 := bgo HW.out b2
    clear HK HR HW HC b2
    have k0 := K2.cell 0
    go_wp2_with fail
    go_at_call 19
    refine (HCl.out _).mono ?_
    rintro e w3 ⟨rfl, b3⟩
    have K3 := K2.after b3
    have R3 := R2.after b3
    have W3 := bgo W2 b3
    clear K2 R2 W2 b3 k0 HCl
    have HR4 := Lib.hid (fun o => R3.alloc o)
    have HW4 := Lib.hid (fun o => bal W3 o)
    have k1 := fun o => (K3.alloc o).cell 1
    have k2 := fun o => (K3.alloc o).cell 2
    have k3 := fun o => (K3.alloc o).cell 3
    have k4 := fun o => (K3.alloc o).cell 4
    have k5 := fun o => (K3.alloc o).cell 5
    clear K3 R3 W3
    go_wp2_with ((with_reducible show wpList _ _ _ (Oper.mk _ (Op.store 74 (Operand.tmp 4) (Operand.tmp 44)) _ _ _ _ :: _) _ _); refine wpList_store_row rfl 74 (.tmp 4) (.tmp 44) rfl (w.heap.size + 1) #[.int .i64 0, .bool false, .bool false, .bool false, .int .i64 0, .int .i64 0, .int .i64 0] rfl rfl 74 #[.int .i64 0, .bool false, .bool false, .bool false, .int .i64 0, .int .i64 0, .int .i64 0] (HR4.out _) (by kernel_rfl) rfl (head_one _ _ _ _ _ _ _) ?_)
    refine bodyPost_ret (results_row_tmp rfl _ _ (w.heap.size + 1) 74 _ (0, 0) _ rfl (by exact (HR4.out _).setRow _) Try.underlying74 rfl (by kernel_rfl)) rfl ⟨?_, by exact Below.setRow (HW4.out _) (Nat.le_succ _) _⟩
    rfl
  | true =>
    have e3 : Apd.clsV cla = infoV (cla % 4) (cla / 4 % 2 == 1) (cla / 16 % 2 == 1) (cla / 128 == 1) := by unfold Apd.clsV; rw [hk]; rfl
    rw [e3, hk] at hCl
    unfold infoV at hCl
    clear e3
    cases hq : (cla / 16 % 2 == 1) == last with
    | true =>
      have hq2 := eq_of_beq hq
      have he : ee = 4 := by rw [hE, if_pos (.inr (.inl hq2))]
      subst he
      have HCl := Lib.hid hCl
      clear hk hE hCl hq2
      go_enter Try.func55, Try.ntmps55
      go_wp2_with ((with_reducible show wpList _ _ _ (Oper.mk _ (Op.load 24 (Operand.tmp 2)) _ _ _ _ :: _) _ _); refine wpList_load_row rfl 24 (.tmp 2) rfl w.heap.size rfl 24 _ (0, 0) _ HK.out Try.underlying24 rfl (by kernel_rfl) ?_)
      go_at_call 14
      refine (HC.out _).mono ?_
      rintro e w2 ⟨rfl, b2⟩
      have K2 := HK.out.after b2
      have R2 := HR.out.after b2
      have W2 := bgo HW.out b2
      clear HK HR HW HC b2
      have k0 := K2.cell 0
      go_wp2_with fail
      go_at_call 19
      refine (HCl.out _).mono ?_
      rintro e w3 ⟨rfl, b3⟩
      have K3 := K2.after b3
      have R3 := R2.after b3
      have W3 := bgo W2 b3
      clear K2 R2 W2 b3 k0 HCl
      have HR4 := Lib.hid (fun o => R3.alloc o)
      have HW4 := Lib.hid (fun o => bal W3 o)
      have k1 := fun o => (K3.alloc o).cell 1
      have k2 := fun o => (K3.alloc o).cell 2
      have k3 := fun o => (K3.alloc o).cell 3
      have k4 := fun o => (K3.alloc o).cell 4
      have k5 := fun o => (K3.alloc o).cell 5
      clear K3 R3 W3
      go_wp2_with ((with_reducible show wpList _ _ _ (Oper.mk _ (Op.store 74 (Operand.tmp 4) (Operand.tmp 44)) _ _ _ _ :: _) _ _); refine wpList_store_row rfl 74 (.tmp 4) (.tmp 44) rfl (w.heap.size + 1) #[.int .i64 0, .bool false, .bool false, .bool false, .int .i64 0, .int .i64 0, .int .i64 0] rfl rfl 74 #[.int .i64 0, .bool false, .bool false, .bool false, .int .i64 0, .int .i64 0, .int .i64 0] (HR4.out _) (by kernel_rfl) rfl (head_one _ _ _ _ _ _ _) ?_)
      refine bodyPost_ret (results_row_tmp rfl _ _ (w.heap.size + 1) 74 _ (0, 0) _ rfl (by exact (HR4.out _).setRow _) Try.underlying74 rfl (by kernel_rfl)) rfl ⟨?_, by exact Below.setRow (HW4.out _) (Nat.le_succ _) _⟩
      rfl
    | false =>
      have hq2 : (cla / 16 % 2 == 1) ≠ last := fun e => by rw [e] at hq; simp at hq
      cases last with
      | false =>
        have hq3 : (cla / 16 % 2 == 1) = true := by cases hh : (cla / 16 % 2 == 1) with | true => rfl | false => exact absurd hh hq2
        rw [hq3] at hCl
        have HCl := Lib.hid hCl
        clear hCl
        by_cases hn : n = 0
        · have he : ee = 4 := by rw [hE, if_pos (.inr (.inr ⟨rfl, .inl hn⟩))]
          subst he
          subst hn
          clear hk hE hq hq2 hq3
          go_enter Try.func55, Try.ntmps55
          go_wp2_with ((with_reducible show wpList _ _ _ (Oper.mk _ (Op.load 24 (Operand.tmp 2)) _ _ _ _ :: _) _ _); refine wpList_load_row rfl 24 (.tmp 2) rfl w.heap.size rfl 24 _ (0, 0) _ HK.out Try.underlying24 rfl (by kernel_rfl) ?_)
          go_at_call 14
          refine (HC.out _).mono ?_
          rintro e w2 ⟨rfl, b2⟩
          have K2 := HK.out.after b2
          have R2 := HR.out.after b2
          have W2 := bgo HW.out b2
          clear HK HR HW HC b2
          have k0 := K2.cell 0
          go_wp2_with fail
          go_at_call 19
          refine (HCl.out _).mono ?_
          rintro e w3 ⟨rfl, b3⟩
          have K3 := K2.after b3
          have R3 := R2.after b3
          have W3 := bgo W2 b3
          clear K2 R2 W2 b3 k0 HCl
          have HR4 := Lib.hid (fun o => R3.alloc o)
          have HW4 := Lib.hid (fun o => bal W3 o)
          have k1 := fun o => (K3.alloc o).cell 1
          have k2 := fun o => (K3.alloc o).cell 2
          have k3 := fun o => (K3.alloc o).cell 3
          have k4 := fun o => (K3.alloc o).cell 4
          have k5 := fun o => (K3.alloc o).cell 5
          clear K3 R3 W3
          go_wp2_with ((with_reducible show wpList _ _ _ (Oper.mk _ (Op.store 74 (Operand.tmp 4) (Operand.tmp 44)) _ _ _ _ :: _) _ _); refine wpList_store_row rfl 74 (.tmp 4) (.tmp 44) rfl (w.heap.size + 1) #[.int .i64 0, .bool false, .bool false, .bool false, .int .i64 0, .int .i64 0, .int .i64 0] rfl rfl 74 #[.int .i64 0, .bool false, .bool false, .bool false, .int .i64 0, .int .i64 0, .int .i64 0] (HR4.out _) (by kernel_rfl) rfl (head_one _ _ _ _ _ _ _) ?_)
          refine bodyPost_ret (results_row_tmp rfl _ _ (w.heap.size + 1) 74 _ (0, 0) _ rfl (by exact (HR4.out _).setRow _) Try.underlying74 rfl (by kernel_rfl)) rfl ⟨?_, by exact Below.setRow (HW4.out _) (Nat.le_succ _) _⟩
          rfl
        by_cases hle : 0 < le
        · have he : ee = 4 := by rw [hE, if_pos (.inr (.inr ⟨rfl, .inr hle⟩))]
          subst he
          have i1 : ((n : Int) == 0) = false := by rw [beq_eq_false_iff_ne]; omega
          clear hk hE hq hq2 hq3
          go_enter Try.func55, Try.ntmps55
          go_wp2_with ((with_reducible show wpList _ _ _ (Oper.mk _ (Op.load 24 (Operand.tmp 2)) _ _ _ _ :: _) _ _); refine wpList_load_row rfl 24 (.tmp 2) rfl w.heap.size rfl 24 _ (0, 0) _ HK.out Try.underlying24 rfl (by kernel_rfl) ?_)
          go_at_call 14
          refine (HC.out _).mono ?_
          rintro e w2 ⟨rfl, b2⟩
          have K2 := HK.out.after b2
          have R2 := HR.out.after b2
          have W2 := bgo HW.out b2
          clear HK HR HW HC b2
          have k0 := K2.cell 0
          go_wp2_with fail
          go_at_call 19
          refine (HCl.out _).mono ?_
          rintro e w3 ⟨rfl, b3⟩
          have K3 := K2.after b3
          have R3 := R2.after b3
          have W3 := bgo W2 b3
          clear K2 R2 W2 b3 k0 HCl
          have HR4 := Lib.hid (fun o => R3.alloc o)
          have HW4 := Lib.hid (fun o => bal W3 o)
          have k1 := fun o => (K3.alloc o).cell 1
          have k2 := fun o => (K3.alloc o).cell 2
          have k3 := fun o => (K3.alloc o).cell 3
          have k4 := fun o => (K3.alloc o).cell 4
          have k5 := fun o => (K3.alloc o).cell 5
          clear K3 R3 W3
          go_wp2_with ((with_reducible show wpList _ _ _ (Oper.mk _ (Op.store 74 (Operand.tmp 4) (Operand.tmp 44)) _ _ _ _ :: _) _ _); refine wpList_store_row rfl 74 (.tmp 4) (.tmp 44) rfl (w.heap.size + 1) #[.int .i64 0, .bool false, .bool false, .bool false, .int .i64 0, .int .i64 0, .int .i64 0] rfl rfl 74 #[.int .i64 0, .bool false, .bool false, .bool false, .int .i64 0, .int .i64 0, .int .i64 0] (HR4.out _) (by kernel_rfl) rfl (head_one _ _ _ _ _ _ _) ?_)
          refine bodyPost_ret (results_row_tmp rfl _ _ (w.heap.size + 1) 74 _ (0, 0) _ rfl (by exact (HR4.out _).setRow _) Try.underlying74 rfl (by kernel_rfl)) rfl ⟨?_, by exact Below.setRow (HW4.out _) (Nat.le_succ _) _⟩
          rfl
        have he : ee = 0 := by rw [hE, if_neg (fun e => by rcases e with e | e | ⟨-, e | e⟩; exact absurd hk (by rw [e]; decide); exact hq2 e; exact hn e; exact hle e)]
        subst he
        have i1 : ((n : Int) == 0) = false := by rw [beq_eq_false_iff_ne]; omega
        clear hk hE hq hq2 hq3
        go_enter Try.func55, Try.ntmps55
        go_wp2_with ((with_reducible show wpList _ _ _ (Oper.mk _ (Op.load 24 (Operand.tmp 2)) _ _ _ _ :: _) _ _); refine wpList_load_row rfl 24 (.tmp 2) rfl w.heap.size rfl 24 _ (0, 0) _ HK.out Try.underlying24 rfl (by kernel_rfl) ?_)
        go_at_call 14
        refine (HC.out _).mono ?_
        rintro e w2 ⟨rfl, b2⟩
        have K2 := HK.out.after b2
        have R2 := HR.out.after b2
        have W2 := bgo HW.out b2
        clear HK HR HW HC b2
        have k0 := K2.cell 0
        go_wp2_with fail
        go_at_call 19
        refine (HCl.out _).mono ?_
        rintro e w3 ⟨rfl, b3⟩
        have K3 := K2.after b3
        have R3 := R2.after b3
        have W3 := bgo W2 b3
        clear K2 R2 W2 b3 k0 HCl
        have HR4 := Lib.hid (fun o => R3.alloc o)
        have HW4 := Lib.hid (fun o => bal W3 o)
        have k1 := fun o => (K3.alloc o).cell 1
        have k2 := fun o => (K3.alloc o).cell 2
        have k3 := fun o => (K3.alloc o).cell 3
        have k4 := fun o => (K3.alloc o).cell 4
        have k5 := fun o => (K3.alloc o).cell 5
        clear K3 R3 W3
        go_wp2_with ((with_reducible show wpList _ _ _ (Oper.mk _ (Op.store 74 (Operand.tmp 4) (Operand.tmp 53)) _ _ _ _ :: _) _ _); refine wpList_store_row rfl 74 (.tmp 4) (.tmp 53) rfl (w.heap.size + 1) #[.int .i64 (cla % 4), .bool (cla / 4 % 2 == 1), .bool false, .bool (cla / 128 == 1), I64 ins, I64 p1, I64 p2] rfl rfl 74 #[.int .i64 0, .bool false, .bool false, .bool false, .int .i64 0, .int .i64 0, .int .i64 0] (HR4.out _) (by kernel_rfl) rfl (head_one _ _ _ _ _ _ _) ?_)
        refine bodyPost_ret (results_row_tmp rfl _ _ (w.heap.size + 1) 74 _ (0, 0) _ rfl (by exact (HR4.out _).setRow _) Try.underlying74 rfl (by kernel_rfl)) rfl ⟨?_, by exact Below.setRow (HW4.out _) (Nat.le_succ _) _⟩
        rfl
      | true =>
        have hq3 : (cla / 16 % 2 == 1) = false := by cases hh : (cla / 16 % 2 == 1) with | false => rfl | true => exact absurd hh hq2
        rw [hq3] at hCl
        have HCl := Lib.hid hCl
        clear hCl
        have he : ee = 0 := by rw [hE, if_neg (fun e => by rcases e with e | e | ⟨e, -⟩; exact absurd hk (by rw [e]; decide); exact hq2 e; exact absurd e (by decide))]
        subst he
        clear hk hE hq hq2 hq3
        go_enter Try.func55, Try.ntmps55
        go_wp2_with ((with_reducible show wpList _ _ _ (Oper.mk _ (Op.load 24 (Operand.tmp 2)) _ _ _ _ :: _) _ _); refine wpList_load_row rfl 24 (.tmp 2) rfl w.heap.size rfl 24 _ (0, 0) _ HK.out Try.underlying24 rfl (by kernel_rfl) ?_)
        go_at_call 14
        refine (HC.out _).mono ?_
        rintro e w2 ⟨rfl, b2⟩
        have K2 := HK.out.after b2
        have R2 := HR.out.after b2
        have W2 := bgo HW.out b2
        clear HK HR HW HC b2
        have k0 := K2.cell 0
        go_wp2_with fail
        go_at_call 19
        refine (HCl.out _).mono ?_
        rintro e w3 ⟨rfl, b3⟩
        have K3 := K2.after b3
        have R3 := R2.after b3
        have W3 := bgo W2 b3
        clear K2 R2 W2 b3 k0 HCl
        have HR4 := Lib.hid (fun o => R3.alloc o)
        have HW4 := Lib.hid (fun o => bal W3 o)
        have k1 := fun o => (K3.alloc o).cell 1
        have k2 := fun o => (K3.alloc o).cell 2
        have k3 := fun o => (K3.alloc o).cell 3
        have k4 := fun o => (K3.alloc o).cell 4
        have k5 := fun o => (K3.alloc o).cell 5
        clear K3 R3 W3
        go_wp2_with ((with_reducible show wpList _ _ _ (Oper.mk _ (Op.store 74 (Operand.tmp 4) (Operand.tmp 53)) _ _ _ _ :: _) _ _); refine wpList_store_row rfl 74 (.tmp 4) (.tmp 53) rfl (w.heap.size + 1) #[.int .i64 (cla % 4), .bool (cla / 4 % 2 == 1), .bool false, .bool (cla / 128 == 1), I64 ins, I64 p1, I64 p2] rfl rfl 74 #[.int .i64 0, .bool false, .bool false, .bool false, .int .i64 0, .int .i64 0, .int .i64 0] (HR4.out _) (by kernel_rfl) rfl (head_one _ _ _ _ _ _ _) ?_)
        refine bodyPost_ret (results_row_tmp rfl _ _ (w.heap.size + 1) 74 _ (0, 0) _ rfl (by exact (HR4.out _).setRow _) Try.underlying74 rfl (by kernel_rfl)) rfl ⟨?_, by exact Below.setRow (HW4.out _) (Nat.le_succ _) _⟩
        rfl
end Go.Proofs.Ytapfiapjefnjjaa
