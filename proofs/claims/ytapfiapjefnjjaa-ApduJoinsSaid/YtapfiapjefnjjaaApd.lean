/-
  Commands, in plain mathematics. Nothing here names a program.
-/
import Derived.Test.YtapfiapjefnjjaaOctP
namespace Go.Proofs.Ytapfiapjefnjjaa.Apd
set_option linter.unusedSimpArgs false

def byt (x : Int) : Bool := decide (0 ≤ x ∧ x ≤ 255)
def maxD (long : Bool) : Int := if long then 65535 else 255
def maxL (long : Bool) : Int := if long then 65536 else 256
theorem maxD_t : maxD true = 65535 := rfl
theorem maxD_f : maxD false = 255 := rfl
theorem maxL_t : maxL true = 65536 := rfl
theorem maxL_f : maxL false = 256 := rfl
/-- The error of a command with n bytes of data. -/
def chk (cla ins p1 p2 : Int) (n : Nat) (le : Int) (long : Bool) : Int :=
  if ¬ (byt cla = true ∧ byt ins = true ∧ byt p1 = true ∧ byt p2 = true) then 2
  else if cla = 255 ∨ ins / 16 = 6 ∨ ins / 16 = 9 then 1
  else if maxD long < n then 3
  else if le < 0 ∨ maxL long < le then 2
  else if long = true ∧ n = 0 ∧ le = 0 then 4
  else 0
/-- The case of a command. -/
def cas (cla ins p1 p2 : Int) (n : Nat) (le : Int) (long : Bool) : Int :=
  if chk cla ins p1 p2 n le long = 0 then 1 + (if 0 < n then 2 else 0) + (if 0 < le then 1 else 0) else 0

/-- What may be found out about a command, one test after another. -/
theorem chk_cases (cla ins p1 p2 : Int) (n : Nat) (le : Int) (long : Bool) :
    (byt cla = false ∧ chk cla ins p1 p2 n le long = 2) ∨ (byt cla = true ∧ byt ins = false ∧ chk cla ins p1 p2 n le long = 2) ∨
    (byt cla = true ∧ byt ins = true ∧ byt p1 = false ∧ chk cla ins p1 p2 n le long = 2) ∨ (byt cla = true ∧ byt ins = true ∧ byt p1 = true ∧ byt p2 = false ∧ chk cla ins p1 p2 n le long = 2) ∨
    (byt cla = true ∧ byt ins = true ∧ byt p1 = true ∧ byt p2 = true ∧ (
      (cla = 255 ∧ chk cla ins p1 p2 n le long = 1) ∨ (cla ≠ 255 ∧ ins / 16 = 6 ∧ chk cla ins p1 p2 n le long = 1) ∨ (cla ≠ 255 ∧ ins / 16 ≠ 6 ∧ ins / 16 = 9 ∧ chk cla ins p1 p2 n le long = 1) ∨
      (cla ≠ 255 ∧ ins / 16 ≠ 6 ∧ ins / 16 ≠ 9 ∧ (
        (maxD long < n ∧ chk cla ins p1 p2 n le long = 3) ∨ (n ≤ maxD long ∧ le < 0 ∧ chk cla ins p1 p2 n le long = 2) ∨ (n ≤ maxD long ∧ 0 ≤ le ∧ maxL long < le ∧ chk cla ins p1 p2 n le long = 2) ∨
        (n ≤ maxD long ∧ 0 ≤ le ∧ le ≤ maxL long ∧ (
          (long = false ∧ chk cla ins p1 p2 n le long = 0) ∨ (long = true ∧ 0 < n ∧ chk cla ins p1 p2 n le long = 0) ∨ (long = true ∧ n = 0 ∧ 0 < le ∧ chk cla ins p1 p2 n le long = 0) ∨ (long = true ∧ n = 0 ∧ le = 0 ∧ chk cla ins p1 p2 n le long = 4))))))) := by
  unfold chk
  cases byt cla <;> cases byt ins <;> cases byt p1 <;> cases byt p2 <;> simp
  by_cases h1 : cla = 255
  · simp [h1]
  by_cases h2 : ins / 16 = 6
  · simp [h1, h2]
  by_cases h3 : ins / 16 = 9
  · simp [h1, h3]
  by_cases h4 : maxD long < n
  · simp [h1, h2, h3, h4]
  by_cases h5 : le < 0
  · simp [h1, h2, h3, h4, h5]; omega
  by_cases h6 : maxL long < le
  · simp [h1, h2, h3, h4, h5, h6]; omega
  cases long
  · simp [h1, h2, h3, h4, h5, h6]; omega
  by_cases h7 : n = 0
  · by_cases h8 : le = 0
    · subst h7 h8; simp [h1, h2, h3] at *; simp [maxD, maxL]
    · simp [h1, h2, h3, h5, h6, h7, h8]; omega
  · simp [h1, h2, h3, h4, h5, h6, h7]; omega
def b8 (x : Int) : UInt8 := UInt8.ofNat x.toNat
def wid (long : Bool) : Nat := if long then 2 else 1
/-- The bytes of a command that is valid. -/
def encB (cla ins p1 p2 : Int) (d : List UInt8) (le : Int) (long : Bool) : List UInt8 :=
  [b8 cla, b8 ins, b8 p1, b8 p2] ++ (if long then [0] else []) ++ (if 0 < d.length then Oct.putB d.length (wid long) ++ d else []) ++ (if 0 < le then Oct.putB le.toNat (wid long) else [])
/-- What Encode returns. -/
def encR (cla ins p1 p2 : Int) (d : List UInt8) (le : Int) (long : Bool) : List UInt8 :=
  if chk cla ins p1 p2 d.length le long = 0 then encB cla ins p1 p2 d le long else []
theorem chk_zero {cla ins p1 p2 : Int} {n : Nat} {le : Int} {long : Bool} (h : chk cla ins p1 p2 n le long = 0) :
    (0 ≤ cla ∧ cla ≤ 254) ∧ (0 ≤ ins ∧ ins ≤ 255) ∧ (0 ≤ p1 ∧ p1 ≤ 255) ∧ (0 ≤ p2 ∧ p2 ≤ 255) ∧ n ≤ maxD long ∧ 0 ≤ le ∧ le ≤ maxL long ∧ ¬ (long = true ∧ n = 0 ∧ le = 0) := by
  have hC := chk_cases cla ins p1 p2 n le long
  have hby : ∀ x, byt x = true → 0 ≤ x ∧ x ≤ 255 := fun x h => of_decide_eq_true h
  rcases hC with ⟨e0, hc⟩ | ⟨e0, e1, hc⟩ | ⟨e0, e1, e2, hc⟩ | ⟨e0, e1, e2, e3, hc⟩ | ⟨e0, e1, e2, e3, hC⟩
  · omega
  · omega
  · omega
  · omega
  have b0 := hby _ e0
  have b1 := hby _ e1
  have b2 := hby _ e2
  have b3 := hby _ e3
  rcases hC with ⟨h1, hc⟩ | ⟨h1, h2, hc⟩ | ⟨h1, h2, h3, hc⟩ | ⟨h1, h2, h3, hC⟩
  · omega
  · omega
  · omega
  rcases hC with ⟨h4, hc⟩ | ⟨h4, h5, hc⟩ | ⟨h4, h5, h6, hc⟩ | ⟨h4, h5, h6, hC⟩
  · omega
  · omega
  · omega
  refine ⟨by omega, b1, b2, b3, h4, h5, h6, ?_⟩
  rcases hC with ⟨h7, hc⟩ | ⟨h7, h8, hc⟩ | ⟨h7, h8, h9, hc⟩ | ⟨h7, h8, h9, hc⟩
  · rw [h7]; simp
  · omega
  · omega
  · omega
end Go.Proofs.Ytapfiapjefnjjaa.Apd
