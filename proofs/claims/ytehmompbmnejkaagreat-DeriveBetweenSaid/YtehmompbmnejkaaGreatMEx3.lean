/- The chapter's examples of ratio: bushellaw04.awake. No conditions. -/
import Derived.Test.YtehmompbmnejkaaGreatMRat2
import Derived.Test.YtehmompbmnejkaaGreatMEx2
namespace Go.Proofs.YtehmompbmnejkaaGreat
open Go.RowKit Ieee

end Go.Proofs.YtehmompbmnejkaaGreat
/- Contract of package exact's Total; the chapter's examples. No conditions. -/
namespace Go.Proofs.YtehmompbmnejkaaGreat
open Go.RowKit Ieee

/-- a slice of floats that holds the words zs -/
def FRow (w : World) (a : Option Addr) (n c : Nat) (zs : List Nat) : Prop :=
 zs.length = n ∧ n ≤ c ∧ c ≤ maxLen ∧ (n = 0 ∨ ∃ b off, a = some ⟨b, off, none⟩ ∧ b < w.heap.size ∧ ∀ i, i < n → w.cell? ⟨b, off + i, none⟩ = some (.float .f64 (zs.getD i 0)))
theorem FRow.below {w w' : World} {a : Option Addr} {n c B : Nat} {zs : List Nat} (h : FRow w a n c zs) (hb : Below B w w') (hB : w.heap.size ≤ B) : FRow w' a n c zs := by
 obtain ⟨h1, h2, h3, h4⟩ := h
 refine ⟨h1, h2, h3, ?_⟩
 rcases h4 with h4 | ⟨b, off, e, hlt, hc⟩
 ·exact .inl h4
 ·exact .inr ⟨b, off, e, by have := hb.size; omega, fun i hi => by rw [(bcell hb).1 _ _ (by omega)]; exact hc i hi⟩
/-- one number more -/
def stepS (s : Nat × Int) (x : Nat) : Nat × Int := (addF s.1 s.2 x, addZ s.2 x)
def foldS (zs : List Nat) : Nat × Int := zs.foldl stepS (0, 0)
def Okay (s : Nat × Int) : Prop := s.1 < 32 ∧ s.2.natAbs < ROOM
theorem room_pos : 0 < ROOM := by rw [room_eq]; exact Nat.two_pow_pos _
theorem okay0 : Okay (0, 0) := ⟨by decide, room_pos⟩
theorem addF_lt {b x : Nat} {z : Int} (h : b < 32) : addF b z x < 32 := by
 have h1 : ∀ k, k < 2 ^ 5 → b ||| k < 2 ^ 5 := fun k hk => Nat.or_lt_two_pow h hk
 unfold addF
 split
 ·exact h1 1 (by decide)
 ·split
  ·split
   ·exact h1 4 (by decide)
   ·exact h1 2 (by decide)
  ·split
   ·split
    ·exact h1 8 (by decide)
    ·exact h1 16 (by decide)
   ·split
    ·exact h1 16 (by decide)
    ·exact h
theorem putZ_lt {z y : Int} (h : z.natAbs < ROOM) : (putZ z y).natAbs < ROOM := by
 unfold putZ
 split
 ·assumption
 ·exact h
theorem Okay.step {s : Nat × Int} (h : Okay s) (x : Nat) : Okay (stepS s x) := by
 refine ⟨addF_lt h.1, ?_⟩
 show (addZ s.2 x).natAbs < ROOM
 unfold addZ
 split
 ·exact putZ_lt h.2
 ·exact h.2
theorem Okay.fold : ∀ (zs : List Nat) (s : Nat × Int), Okay s → Okay (zs.foldl stepS s)
 | [], _, h => h
 | x :: zs, _, h => Okay.fold zs _ (h.step x)
theorem foldS_take {zs : List Nat} {k : Nat} (h : k < zs.length) : foldS (zs.take (k + 1)) = stepS (foldS (zs.take k)) (zs.getD k 0) := by
 unfold foldS
 rw [List.take_succ_eq_append_getElem h, List.foldl_append]
 simp [h]

end Go.Proofs.YtehmompbmnejkaaGreat
/- Sums of at most 100 numbers hang on no order. No conditions. -/
namespace Go.Proofs.YtehmompbmnejkaaGreat
open Go.RowKit Ieee

end Go.Proofs.YtehmompbmnejkaaGreat
/- What package bushelref05's sums are as values; contract of its Value. Conditions: below 2^2240 units; units come with their flag. -/
namespace Go.Proofs.YtehmompbmnejkaaGreat
open Go.RowKit Ieee

def fN (b : Nat) : Bool := decide (b % 2 = 1)
def fU (b : Nat) : Bool := decide (b / 2 % 2 = 1)
def fD (b : Nat) : Bool := decide (b / 4 % 2 = 1)
def fM (b : Nat) : Bool := decide (b / 8 % 2 = 1)
def fP (b : Nat) : Bool := decide (b / 16 % 2 = 1)
/-- a sum's cells in the reference -/
def rsCells (b : Nat) (ng : Bool) (a : Option Addr) (l c : Nat) : Array Value := #[.bool (fN b), .bool (fU b), .bool (fD b), .bool (fM b), .bool (fP b), .bool ng, .slice a l c]
/-- units come with their flag -/
def Plus (b : Nat) (z : Int) : Prop := z ≠ 0 → 16 ≤ b
theorem Plus.step {s : Nat × Int} (h : Plus s.1 s.2) (x : Nat) : Plus (stepS s x).1 (stepS s x).2 := by
 intro hz
 have hor : ∀ k, s.1 ≤ s.1 ||| k := fun k => Nat.left_le_or
 have hor16 : 16 ≤ s.1 ||| 16 := Nat.right_le_or
 show 16 ≤ addF s.1 s.2 x
 have hz' : addZ s.2 x ≠ 0 := hz
 unfold addF
 unfold addZ at hz'
 by_cases k3 : kindZ x = 3
 ·rw [if_pos k3]; rw [if_neg (by omega)] at hz'; exact Nat.le_trans (h hz') (hor 1)
 ·rw [if_neg k3]
  by_cases k2 : kindZ x = 2
  ·rw [if_pos k2]; rw [if_neg (by omega)] at hz'; exact Nat.le_trans (h hz') (hor _)
  ·rw [if_neg k2]
   by_cases k0 : kindZ x = 0
   ·rw [if_pos k0]; rw [if_neg (by omega)] at hz'; exact Nat.le_trans (h hz') (hor _)
   ·rw [if_neg k0]
    by_cases hk : addOk s.2 x = true
    ·rw [if_pos hk]; exact hor16
    ·rw [if_neg hk]
     have k1 : kindZ x = 1 := by
      rcases kind_cases x with h1 | ⟨h1, -⟩ | ⟨h1, -⟩ | h1
      ·exact absurd h1 k3
      ·exact absurd h1 k2
      ·exact absurd h1 k0
      ·exact h1
     rw [if_pos k1] at hz'
     refine h ?_
     unfold putZ at hz'
     have hok : ¬ (s.2 + unitsOf x).natAbs < ROOM := by
      intro hlt
      apply hk
      unfold addOk
      rw [decide_eq_true hlt, Bool.or_true]
     rw [if_neg hok] at hz'
     exact hz'
theorem f0 {x : Nat} (h : decide (x % 2 = 1) = false) : x % 2 = 0 := by
 have := of_decide_eq_false h
 omega

end Go.Proofs.YtehmompbmnejkaaGreat
