/- Contract of package nat's Read. No conditions. -/
import Derived.Test.YtdbkgpakpadloaaGreatDoorNatQ
import Derived.Lib.Strings
namespace Go.Proofs.YtdbkgpakpadloaaGreatDoor
open Go.RowKit

/-- the j-th byte of a text, as a number -/
def sb (s : ByteArray) (j : Nat) : Int := ((s.data.toList.getD j 0).toNat : Int)
theorem sb_at {s : ByteArray} {j : Nat} (h : j < s.size) : sb s j = ((s[j]'h).toNat : Int) := by
  unfold sb
  have h2 : j < s.data.toList.length := by simpa using h
  rw [List.getD_eq_getElem?_getD, List.getElem?_eq_getElem h2]
  rfl
/-- the number of a text's first n digits -/
def tv (s : ByteArray) : Nat → Int
  | 0 => 0
  | n + 1 => tv s n * 10 + (sb s n - 48)
/-- is s a number's text? -/
def OkText (s : ByteArray) : Prop := 0 < s.size ∧ s.size ≤ 1000 ∧ ¬ (sb s 0 = 48 ∧ 1 < s.size) ∧ ∀ j, j < s.size → 48 ≤ sb s j ∧ sb s j ≤ 57
def BadHead (s : ByteArray) : Prop := s.size = 0 ∨ 1000 < s.size ∨ (sb s 0 = 48 ∧ 1 < s.size)
theorem isEmpty_of {s : ByteArray} : s.toList.isEmpty = decide (s.size = 0) := by
  have e : s.size = s.data.toList.length := by rw [Array.length_toList]; rfl
  rw [Lib.toList_data, e]
  cases s.data.toList <;> simp
/-- what Read says of a text -/
def ReadOut (s : ByteArray) (w : World) (e : Ending) (w' : World) : Prop := (OkText s → RetNatB w (tv s s.size) e w') ∧ (¬ OkText s → e = .returned (.tuple #[.slice none 0 0, .bool false]) ∧ Below w.heap.size w w')
theorem ReadOut.no {s : ByteArray} {w w' : World} (h : ¬ OkText s) (hb : Below w.heap.size w w') : ReadOut s w (.returned (.tuple #[.slice none 0 0, .bool false])) w' := ⟨fun k => absurd k h, fun _ => ⟨rfl, hb⟩⟩

theorem OwnK.set {k : IntKind} {w : World} {B g n cap : Nat} {e : TypeId} {xs : List Int} (h : OwnK k w B e (.slice (some ⟨g, 0, none⟩) n cap) n xs) {i : Nat} (hi : i < n) (d : Int) : OwnK k (w.setCell ⟨g, i, none⟩ (.int k d)) B e (.slice (some ⟨g, 0, none⟩) n cap) n (xs.set i d) := by
  have hp := (h.part.set (by rw [h.len]; exact hi) d)
  have hl := h.len
  rcases h.2 with ⟨h1, _⟩ | ⟨g', cap', cur, h1, hg, hh, h3, h4, h5, h6⟩
  · cases h1
  · cases h1
    obtain ⟨r, hr⟩ := h.part
    obtain ⟨r', hr'⟩ := hp
    refine ⟨by simp [hl], .inr ⟨g, cap, _, rfl, hg, hr', h3, h4, ?_, ?_⟩⟩
    · have hs : (w.setCell ⟨g, i, none⟩ (.int k d)).heap[g]? = some (.cells (cur.set! i (.int k d)) e (0, 0)) := by
        simp [World.setCell, Array.getElem?_modify, hh]
      rw [hr'] at hs
      have h7 := congrArg (fun o : Option Obj => match o with | some (.cells c _ _) => c.size | _ => 0) hs
      simp only at h7
      rw [h7]
      simp [h5]
    · rw [Nat.mul_one, List.take_left' (by simp [hl])]
/-- one word times ten -/
theorem read_step {os os' : List Int} {cy c0 : Int} {k : Nat} (hl : os'.length = os.length) (hk : k < os.length)
    (hv : vf 4294967296 (fun j => os'.getD j 0) k + cy * 4294967296 ^ k = 10 * vf 4294967296 (fun j => os.getD j 0) k + c0) :
    vf 4294967296 (fun j => (os'.set k ((os.getD k 0 * 10 + cy) % 4294967296)).getD j 0) (k + 1) + (os.getD k 0 * 10 + cy) / 4294967296 * 4294967296 ^ (k + 1) = 10 * vf 4294967296 (fun j => os.getD j 0) (k + 1) + c0 := by
  show vf 4294967296 (fun j => (os'.set k ((os.getD k 0 * 10 + cy) % 4294967296)).getD j 0) k + (os'.set k ((os.getD k 0 * 10 + cy) % 4294967296)).getD k 0 * 4294967296 ^ k + _ = 10 * (vf 4294967296 (fun j => os.getD j 0) k + os.getD k 0 * 4294967296 ^ k) + c0
  rw [getD_set_self (by omega), vf_congr (g := fun j => os'.getD j 0) k fun j hj => getD_set_ne (by omega)]
  have e : (os.getD k 0 * 10 + cy) % 4294967296 * 4294967296 ^ k + (os.getD k 0 * 10 + cy) / 4294967296 * 4294967296 ^ (k + 1) = 10 * (os.getD k 0 * 4294967296 ^ k) + cy * 4294967296 ^ k := by
    generalize os.getD k 0 = x
    rw [Int.pow_succ, Int.mul_comm (4294967296 ^ k) 4294967296, ← Int.mul_assoc, ← Int.add_mul, ← Int.mul_assoc, ← Int.add_mul]
    congr 1
    omega
  omega
theorem trimmed_of_ge {os : List Int} (ho : Dig 4294967296 os) (h : os = [] ∨ 4294967296 ^ (os.length - 1) ≤ V 4294967296 os) : Trimmed os := by
  rcases h with h | h
  · exact .inl h
  · by_cases h0 : os = []
    · exact .inl h0
    · right
      intro e
      have hl : os.length = os.length - 1 + 1 := by
        have : os.length ≠ 0 := fun e => h0 (List.length_eq_zero_iff.1 e)
        omega
      have hv : V 4294967296 os = vf 4294967296 (fun j => os.getD j 0) (os.length - 1) + os.getD (os.length - 1) 0 * 4294967296 ^ (os.length - 1) := by
        unfold V
        conv => lhs; rw [hl]
        rfl
      have hb := vf_bd (B := 4294967296) (by decide) (f := fun j => os.getD j 0) (os.length - 1) fun i _ => ho.at (by decide) i
      rw [e, Int.zero_mul] at hv
      omega

set_option maxRecDepth 100000 in
set_option maxHeartbeats 2000000 in
theorem nread_any (s : ByteArray) (w : World) (hs : s.size ≤ 9223372036854775807) :
    Calls Tryz.prog 20 #[.string s] w (ReadOut s w) := by
  go_enter Tryz.func20, Tryz.ntmps20
  go_upto_region 1 with fail
  go_cut [25] (fun v wx => (v = .bool true ∧ BadHead s ∨ v = .bool false ∧ ¬ BadHead s) ∧ w = wx)
  case first =>
    by_cases h0 : s.size = 0
    · have he : s.toList.isEmpty = true := by rw [isEmpty_of]; simpa using h0
      go_wp2_with fail
      go_meet
      exact ⟨.inl ⟨rfl, .inl h0⟩, rfl⟩
    · have hp : 0 < s.size := by omega
      have he : s.toList.isEmpty = false := by rw [isEmpty_of]; simpa using h0
      by_cases h1 : 1000 < s.size
      · go_wp2_with fail
        go_meet
        exact ⟨.inl ⟨rfl, .inr (.inl h1)⟩, rfl⟩
      · have hc := sb_at hp
        obtain ⟨c0, hc0⟩ : ∃ c : Int, ((s[0]'hp).toNat : Int) = c := ⟨_, rfl⟩
        rw [hc0] at hc
        have HC := Lib.hid hc
        clear hc
        by_cases h48 : c0 = 48
        · have hq : (((s[0]'hp).toNat : Int) == 48) = true := by rw [hc0, h48]; rfl
          by_cases h2 : 1 < s.size
          · go_wp2_with fail
            go_meet
            exact ⟨.inl ⟨congrArg Value.bool (by simp; omega), .inr (.inr ⟨by rw [HC.out]; exact h48, h2⟩)⟩, rfl⟩
          · go_wp2_with fail
            go_meet
            exact ⟨.inr ⟨congrArg Value.bool (by simp; omega), fun h => by rcases h with h | h | h <;> omega⟩, rfl⟩
        · have hq : (((s[0]'hp).toNat : Int) == 48) = false := by rw [hc0]; simpa using h48
          go_wp2_with fail
          go_meet
          exact ⟨.inr ⟨congrArg Value.bool (by simp; omega), fun h => by rcases h with h | h | h; omega; omega; exact h48 (HC.out ▸ h.1)⟩, rfl⟩
  case rest =>
    obtain ⟨hor, rfl⟩ := hcut
    rcases hor with ⟨rfl, hbad⟩ | ⟨rfl, hbad⟩
    · have HNO : Hid (¬ OkText s) := Lib.hid fun h => by
        obtain ⟨h1, h2, h3, -⟩ := h
        rcases hbad with h | h | h
        · omega
        · omega
        · exact h3 h
      clear hbad
      go_wp2_with fail
      go_ret2
      exact ReadOut.no HNO.out (Below.refl _ _)
    · have hp : 0 < s.size := Nat.pos_of_ne_zero fun e => hbad (.inl e)
      have h1k : s.size ≤ 1000 := Nat.le_of_not_lt fun e => hbad (.inr (.inl e))
      have HH : Hid (¬ (sb s 0 = 48 ∧ 1 < s.size)) := Lib.hid fun e => hbad (.inr (.inr e))
      clear hbad
      go_wp2_with fail
      go_loopg [28, 4] s.size (fun q iu ou wr => ∃ (i : Nat) (os : List Int), iu = .int .i64 i ∧ i + q = s.size ∧ (∀ j, j < i → 48 ≤ sb s j ∧ sb s j ≤ 57) ∧ OwnK .u32 wr w.heap.size 48 ou os.length os ∧ Dig 4294967296 os ∧ V 4294967296 os = tv s i ∧ (os = [] ∨ 4294967296 ^ (os.length - 1) ≤ V 4294967296 os) ∧ os.length ≤ i ∧ Below w.heap.size w wr)
      case atStart => exact ⟨0, [], rfl, by omega, fun j h => by omega, OwnK.nil _ _ _ _, Dig.nil, rfl, .inl rfl, Nat.le_refl _, Below.refl _ _⟩
      case round =>
        obtain ⟨i, os, rfl, hq, hok, hown, hdo, hv, hge, hlen, hbl⟩ := hrel
        have HQ := Lib.hid hq
        have HOK := Lib.hid hok
        have HOW := Lib.hid hown
        have HDO := Lib.hid hdo
        have HV := Lib.hid hv
        have HGE := Lib.hid hge
        have HBL := Lib.hid hbl
        have hsz := hbl.size
        clear hq hok hown hdo hv hge hbl
        by_cases hi : i < s.size
        · have hc := sb_at hi
          obtain ⟨c0, hc0⟩ : ∃ c : Int, ((s[i]'hi).toNat : Int) = c := ⟨_, rfl⟩
          have hcb : c0 < 256 := by have := (s[i]'hi).toNat_lt; omega
          have hcb0 : 0 ≤ c0 := by omega
          rw [hc0] at hc
          have HC := Lib.hid hc
          clear hc
          by_cases hbadc : c0 < 48 ∨ 57 < c0
          · have HNO : Hid (¬ OkText s) := Lib.hid fun h => by
              have := h.2.2.2 i hi
              rw [HC.out] at this
              omega
            by_cases hlo : c0 < 48
            · go_wp2_with fail
              go_ret2
              exact ReadOut.no HNO.out HBL.out
            · have hhi : 57 < c0 := by omega
              go_wp2_with fail
              go_ret2
              exact ReadOut.no HNO.out HBL.out
          · have hlo : 48 ≤ c0 := by omega
            have hhi : c0 ≤ 57 := by omega
            clear hbadc
            obtain ⟨p, cap, hu⟩ := HOW.out.form
            subst hu
            have hrow := HOW.out.row
            have hlc : os.length ≤ cap := hrow.2.1
            have hcm : cap ≤ 9223372036854775807 := by have := hrow.2.2.1; unfold maxLen at this; exact this
            clear hrow
            obtain ⟨d0, hd0⟩ : ∃ d : Int, c0 - 48 = d := ⟨_, rfl⟩
            have hdd0 : 0 ≤ d0 := by omega
            have hdd1 : d0 ≤ 9 := by omega
            have HT : Hid (tv s (i + 1) = tv s i * 10 + d0) := Lib.hid (by show tv s i * 10 + (sb s i - 48) = _; rw [HC.out, hd0])
            have HOKN : Hid (∀ j, j < i + 1 → 48 ≤ sb s j ∧ sb s j ≤ 57) := Lib.hid fun j hj => by
              by_cases h : j = i
              · rw [h, HC.out]; exact ⟨hlo, hhi⟩
              · exact HOK.out j (by omega)
            go_wp2_with fail
            go_loopg [48, 6] os.length (fun q ku cu wi => ∃ (k : Nat) (cy : Int) (os2 : List Int), ku = .int .i64 k ∧ cu = .int .u64 cy ∧ k + q = os.length ∧ 0 ≤ cy ∧ cy ≤ 9 ∧ OwnK .u32 wi w.heap.size 48 (.slice p os.length cap) os.length os2 ∧ os2.length = os.length ∧ Dig 4294967296 os2 ∧ (∀ j, k ≤ j → os2.getD j 0 = os.getD j 0) ∧
              vf 4294967296 (fun j => os2.getD j 0) k + cy * 4294967296 ^ k = 10 * vf 4294967296 (fun j => os.getD j 0) k + d0 ∧ Below w.heap.size w wi)
            case atStart => exact ⟨0, d0, os, rfl, congrArg (Value.int .u64) (by omega), by omega, hdd0, hdd1, HOW.out, rfl, HDO.out, fun _ _ => rfl, by simp [vf], HBL.out⟩
            case round =>
              obtain ⟨k, cy, os2, rfl, rfl, hq2, hc0', hc1', hown2, hl2, hdo2, hs2, hv2, hbi⟩ := hrel
              have HQ2 := Lib.hid hq2
              have HOW2 := Lib.hid hown2
              have HL2 := Lib.hid hl2
              have HDO2 := Lib.hid hdo2
              have HS2 := Lib.hid hs2
              have HV2 := Lib.hid hv2
              have HBI := Lib.hid hbi
              have hszi := hbi.size
              clear hq2 hown2 hl2 hdo2 hs2 hv2 hbi
              by_cases hk : k < os.length
              · obtain ⟨g, cap', hp, hpart, hgB, -, -⟩ := HOW2.out.blk (by omega)
                cases hp
                have hco := hpart.cell (i := k) (by rw [HL2.out]; exact hk)
                have hfo := hpart.frozen k
                rw [HS2.out k (Nat.le_refl _)] at hco
                have hxr := HDO.out.at (by decide) k
                have HST : Hid (vf 4294967296 (fun j => (os2.set k ((os.getD k 0 * 10 + cy) % 4294967296)).getD j 0) (k + 1) + (os.getD k 0 * 10 + cy) / 4294967296 * 4294967296 ^ (k + 1) = 10 * vf 4294967296 (fun j => os.getD j 0) (k + 1) + d0) := Lib.hid (read_step HL2.out hk HV2.out)
                obtain ⟨x, hx⟩ : ∃ d, os.getD k 0 = d := ⟨_, rfl⟩
                rw [hx] at hco hxr HST
                obtain ⟨x0, x1⟩ := hxr
                clear hx hpart
                go_wp2_with fail
                go_roundg (os.length - k - 1)
                case measure => have := HQ2.out; omega
                case rel => exact ⟨k + 1, (x * 10 + cy) / 4294967296, os2.set k ((x * 10 + cy) % 4294967296), by go_num, rfl, by have := HQ2.out; omega, by omega, by omega, HOW2.out.set hk _, by rw [List.length_set]; exact HL2.out, HDO2.out.set k (by omega) (by omega), fun j hj => by rw [getD_set_ne (by omega)]; exact HS2.out j (by omega), HST.out, HBI.out.setCell hgB _⟩
              · have hke : k = os.length := by have := HQ2.out; omega
                have HVE : Hid (V 4294967296 os2 + cy * 4294967296 ^ os.length = tv s (i + 1)) := Lib.hid (by
                  have h := HV2.out
                  rw [hke, vf_ext (by rw [HL2.out]; exact Nat.le_refl _), vf_ext (Nat.le_refl _)] at h
                  rw [h, HT.out, HV.out, Int.mul_comm])
                clear hke
                by_cases hcy : 0 < cy
                · have hcm2 : cy % 4294967296 = cy := by omega
                  have hlq : os.length ≤ 1000 := by omega
                  go_wp2_with (at_builtin; refine append1 .u32 41 48 4 info_u32 (by decide) Tryz.underlying41 rfl _ _ rfl w.heap.size wr (.slice p os.length cap) os.length os2 cy rfl rfl HOW2.out (by omega) hszi ?_)
                  intro g cap3 w3 hown3 hgr3 hbl3 hg3
                  have hl3 : (os2 ++ [cy]).length = os.length + 1 := by rw [List.length_append, HL2.out]; rfl
                  have HOW3 : Hid (OwnK .u32 w3 w.heap.size 48 (.slice (some ⟨g, 0, none⟩) (os.length + 1) cap3) (os2 ++ [cy]).length (os2 ++ [cy])) := Lib.hid (by rw [hl3]; exact hown3)
                  have HB3 := Lib.hid (hbl3 w HBI.out)
                  have HV3 : Hid (V 4294967296 (os2 ++ [cy]) = tv s (i + 1) ∧ 4294967296 ^ os.length ≤ V 4294967296 (os2 ++ [cy])) := Lib.hid (by
                    rw [V_snoc, HL2.out]
                    refine ⟨HVE.out, ?_⟩
                    have h1 := (V_bd (B := 4294967296) (by decide) HDO2.out).1
                    have h2 := Int.mul_le_mul_of_nonneg_right (show 1 ≤ cy by omega) (Int.le_of_lt (show (0 : Int) < 4294967296 ^ os.length from Int.pow_pos (by decide)))
                    rw [Int.one_mul] at h2
                    omega)
                  have HL3 := Lib.hid hl3
                  clear hown3 hgr3 hbl3 hg3 hl3
                  go_wp2_with fail
                  go_roundg (s.size - i - 1)
                  case measure => have := HQ.out; omega
                  case rel => exact ⟨i + 1, os2 ++ [cy], by go_num, by have := HQ.out; omega, HOKN.out, HOW3.out, HDO2.out.snoc (by omega) (by omega), HV3.out.1, .inr (by rw [HL3.out, Nat.add_sub_cancel]; exact HV3.out.2), by rw [HL3.out]; omega, HB3.out⟩
                · have HVZ : Hid (V 4294967296 os2 = tv s (i + 1)) := Lib.hid (by
                    have h := HVE.out
                    rw [show cy = 0 from by omega, Int.zero_mul, Int.add_zero] at h
                    exact h)
                  have HG2 : Hid (os2 = [] ∨ 4294967296 ^ (os2.length - 1) ≤ V 4294967296 os2) := Lib.hid (by
                    rcases HGE.out with h | h
                    · left
                      have h1 := HL2.out
                      rw [h] at h1
                      exact List.length_eq_zero_iff.1 h1
                    · right
                      have h1 := (V_bd (B := 4294967296) (by decide) HDO.out).1
                      have h2 := HV.out
                      have h3 := HT.out
                      rw [HVZ.out, HL2.out]
                      omega)
                  go_wp2_with fail
                  go_roundg (s.size - i - 1)
                  case measure => have := HQ.out; omega
                  case rel => exact ⟨i + 1, os2, by go_num, by have := HQ.out; omega, HOKN.out, by rw [HL2.out]; exact HOW2.out, HDO2.out, HVZ.out, HG2.out, by rw [HL2.out]; omega, HBI.out⟩
        · have hin : i = s.size := by have := HQ.out; omega
          have HOKT : Hid (OkText s) := Lib.hid ⟨hp, h1k, HH.out, by rw [← hin]; exact HOK.out⟩
          have HVT : Hid (V 4294967296 os = tv s s.size) := Lib.hid (by rw [← hin]; exact HV.out)
          obtain ⟨p, cap, hu⟩ := HOW.out.form
          subst hu
          have HROW := Lib.hid HOW.out.row
          have HFR := Lib.hid HOW.out.fresh
          clear hin
          go_wp2_with fail
          go_ret2
          exact ⟨fun _ => ⟨p, _, cap, rfl, ⟨os, HROW.out, HDO.out, trimmed_of_ge HDO.out HGE.out, HVT.out⟩, HBL.out, HFR.out⟩, fun h => absurd HOKT.out h⟩
end Go.Proofs.YtdbkgpakpadloaaGreatDoor
