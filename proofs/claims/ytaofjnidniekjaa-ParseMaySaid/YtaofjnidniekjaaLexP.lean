/- The plain laws of cutting a text into tokens: no program in sight. No conditions but those stated. -/
import Derived.Test.YtaofjnidniekjaaNamesD
namespace Go.Proofs.Ytaofjnidniekjaa
open Go.RowKit

/-- is a byte one of a run? -/
def runB (c : UInt8) : Bool := decide ((97 ≤ c.toNat ∧ c.toNat ≤ 122) ∨ (48 ≤ c.toNat ∧ c.toNat ≤ 57) ∨ c.toNat = 95)
def digB (c : UInt8) : Bool := decide (48 ≤ c.toNat ∧ c.toNat ≤ 57)
def smallB (c : UInt8) : Bool := decide (97 ≤ c.toNat ∧ c.toNat ≤ 122)
/-- the number of decimal digits -/
def numS (l : List UInt8) : Int := l.foldl (fun n c => 10 * n + ((c.toNat : Int) - 48)) 0

theorem numS_bd : ∀ (l : List UInt8), (∀ c ∈ l, digB c = true) → 0 ≤ numS l ∧ numS l < 10 ^ l.length := by
  intro l
  unfold numS
  suffices h : ∀ (l : List UInt8) (a : Int) (k : Nat), 0 ≤ a → a < 10 ^ k → (∀ c ∈ l, digB c = true) → 0 ≤ l.foldl (fun n c => 10 * n + ((c.toNat : Int) - 48)) a ∧ l.foldl (fun n c => 10 * n + ((c.toNat : Int) - 48)) a < 10 ^ (k + l.length) by
    intro hl
    have := h l 0 0 (Int.le_refl 0) (by decide) hl
    rwa [Nat.zero_add] at this
  intro l
  induction l with
  | nil => intro a k h1 h2 _; exact ⟨h1, h2⟩
  | cons c l ih =>
    intro a k h1 h2 hc
    have hd := hc c List.mem_cons_self
    unfold digB at hd
    rw [decide_eq_true_eq] at hd
    have := ih (10 * a + ((c.toNat : Int) - 48)) (k + 1) (by omega) (by rw [Int.pow_succ]; omega) (fun x hx => hc x (List.mem_cons_of_mem _ hx))
    rw [List.foldl_cons, List.length_cons, show k + (l.length + 1) = k + 1 + l.length from by omega]
    exact this

/-- what a run is: the error, the kind, the number -/
def runR (t : ByteArray) : Int × Int × Int :=
  if wordB t then (0, 1, 0)
  else if smallB (t.data.toList.headD 0) ∨ t.data.toList.headD 0 = 95 then
    (if smallB (t.data.toList.headD 0) ∧ 16 < t.size then (4, 0, 0) else if smallB (t.data.toList.headD 0) then (0, 2, 0) else (6, 0, 0))
  else if (t.data.toList.all digB) ∧ ¬ (1 < t.size ∧ t.data.toList.headD 0 = 48) then (if 9 < t.size then (4, 0, 0) else (0, 3, numS t.data.toList))
  else (6, 0, 0)
end Go.Proofs.Ytaofjnidniekjaa
