/- Contract of package nat's Read. No conditions. -/
import Derived.Test.YtgdddpbdcdheeaaNatQ
import Derived.Lib.Strings
namespace Go.Proofs.Ytgdddpbdcdheeaa
open Go.RowKit

/-- the j-th byte of a text, as a number -/
def sb (s : ByteArray) (j : Nat) : Int := ((s.data.toList.getD j 0).toNat : Int)
theorem sb_at {s : ByteArray} {j : Nat} (h : j < s.size) : sb s j = ((s[j]'h).toNat : Int) := by
  unfold sb
  have h2 : j < s.data.toList.length := by simpa using h
  rw [List.getD_eq_getElem?_getD, List.getElem?_eq_getElem h2]
  rfl
/-- the number of a text's first n digits -/
def tv (s : ByteArray) : Nat → Int
  | 0 => 0
  | n + 1 => tv s n * 10 + (sb s n - 48)
/-- is s a number's text? -/
def OkText (s : ByteArray) : Prop := 0 < s.size ∧ s.size ≤ 1000 ∧ ¬ (sb s 0 = 48 ∧ 1 < s.size) ∧ ∀ j, j < s.size → 48 ≤ sb s j ∧ sb s j ≤ 57
def BadHead (s : ByteArray) : Prop := s.size = 0 ∨ 1000 < s.size ∨ (sb s 0 = 48 ∧ 1 < s.size)
theorem isEmpty_of {s : ByteArray} : s.toList.isEmpty = decide (s.size = 0) := by
  have e : s.size = s.data.toList.length := by rw [Array.length_toList]; rfl
  rw [Lib.toList_data, e]
  cases s.data.toList <;> simp
/-- what Read says of a text -/
def ReadOut (s : ByteArray) (w : World) (e : Ending) (w' : World) : Prop := (OkText s → RetNatB w (tv s s.size) e w') ∧ (¬ OkText s → e = .returned (.tuple #[.slice none 0 0, .bool false]) ∧ Below w.heap.size w w')
theorem ReadOut.no {s : ByteArray} {w w' : World} (h : ¬ OkText s) (hb : Below w.heap.size w w') : ReadOut s w (.returned (.tuple #[.slice none 0 0, .bool false])) w' := ⟨fun k => absurd k h, fun _ => ⟨rfl, hb⟩⟩

theorem OwnK.set {k : IntKind} {w : World} {B g n cap : Nat} {e : TypeId} {xs : List Int} (h : OwnK k w B e (.slice (some ⟨g, 0, none⟩) n cap) n xs) {i : Nat} (hi : i < n) (d : Int) : OwnK k (w.setCell ⟨g, i, none⟩ (.int k d)) B e (.slice (some ⟨g, 0, none⟩) n cap) n (xs.set i d) := by
  have hp := (h.part.set (by rw [h.len]; exact hi) d)
  have hl := h.len
  rcases h.2 with ⟨h1, _⟩ | ⟨g', cap', cur, h1, hg, hh, h3, h4, h5, h6⟩
  · cases h1
  · cases h1
    obtain ⟨r, hr⟩ := h.part
    obtain ⟨r', hr'⟩ := hp
    refine ⟨by simp [hl], .inr ⟨g, cap, _, rfl, hg, hr', h3, h4, ?_, ?_⟩⟩
    · have hs : (w.setCell ⟨g, i, none⟩ (.int k d)).heap[g]? = some (.cells (cur.set! i (.int k d)) e (0, 0)) := by
        simp [World.setCell, Array.getElem?_modify, hh]
      rw [hr'] at hs
      have h7 := congrArg (fun o : Option Obj => match o with | some (.cells c _ _) => c.size | _ => 0) hs
      simp only at h7
      rw [h7]
      simp [h5]
    · rw [Nat.mul_one, List.take_left' (by simp [hl])]
/-- one word times ten -/
theorem read_step {os os' : List Int} {cy c0 : Int} {k : Nat} (hl : os'.length = os.length) (hk : k < os.length)
    (hv : vf 4294967296 (fun j => os'.getD j 0) k + cy * 4294967296 ^ k = 10 * vf 4294967296 (fun j => os.getD j 0) k + c0) :
    vf 4294967296 (fun j => (os'.set k ((os.getD k 0 * 10 + cy) % 4294967296)).getD j 0) (k + 1) + (os.getD k 0 * 10 + cy) / 4294967296 * 4294967296 ^ (k + 1) = 10 * vf 4294967296 (fun j => os.getD j 0) (k + 1) + c0 := by
  show vf 4294967296 (fun j => (os'.set k ((os.getD k 0 * 10 + cy) % 4294967296)).getD j 0) k + (os'.set k ((os.getD k 0 * 10 + cy) % 4294967296)).getD k 0 * 4294967296 ^ k + _ = 10 * (vf 4294967296 (fun j => os.getD j 0) k + os.getD k 0 * 4294967296 ^ k) + c0
  rw [getD_set_self (by omega), vf_congr (g := fun j => os'.getD j 0) k fun j hj => getD_set_ne (by omega)]
  have e : (os.getD k 0 * 10 + cy) % 4294967296 * 4294967296 ^ k + (os.getD k 0 * 10 + cy) / 4294967296 * 4294967296 ^ (k + 1) = 10 * (os.getD k 0 * 4294967296 ^ k) + cy * 4294967296 ^ k := by
    generalize os.getD k 0 = x
    rw [Int.pow_succ, Int.mul_comm (4294967296 ^ k) 4294967296, ← Int.mul_assoc, ← Int.add_mul, ← Int.mul_assoc, ← Int.add_mul]
    congr 1
    omega
  omega
theorem trimmed_of_ge {os : List Int} (ho : Dig 4294967296 os) (h : os = [] ∨ 4294967296 ^ (os.length - 1) ≤ V 4294967296 os) : Trimmed os := by
  rcases h with h | h
  · exact .inl h
  · by_cases h0 : os = []
    · exact .inl h0
    · right
      intro e
      have hl : os.length = os.length - 1 + 1 := by
        have : os.length ≠ 0 := fun e => h0 (List.length_eq_zero_iff.1 e)
        omega
      have hv : V 4294967296 os = vf 4294967296 (fun j => os.getD j 0) (os.length - 1) + os.getD (os.length - 1) 0 * 4294967296 ^ (os.length - 1) := by
        unfold V
        conv => lhs; rw [hl]
        rfl
      have hb := vf_bd (B := 4294967296) (by decide) (f := fun j => os.getD j 0) (os.length - 1) fun i _ => ho.at (by decide) i
      rw [e, Int.zero_mul] at hv
      omega

end Go.Proofs.Ytgdddpbdcdheeaa
