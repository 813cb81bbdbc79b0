/- Contract of package bushelref01's Mul. Condition: the numbers lie below 1000^1000000. -/
import Derived.Test.YtnbhcemgoifkgaaRef01c
import Derived.Test.YtnbhcemgoifkgaaArr
namespace Go.Proofs.Ytnbhcemgoifkgaa
open Go.RowKit

theorem mul_step {os xs ys : List Int} {c s : Int} {i k : Nat} (hj : i + k < os.length) (hv : V 1000 os + c * 1000 ^ (i + k) = vf 1000 (fun j => xs.getD j 0) i * V 1000 ys + xs.getD i 0 * vf 1000 (fun j => ys.getD j 0) k * 1000 ^ i)
    (hs : s = os.getD (i + k) 0 + xs.getD i 0 * ys.getD k 0 + c) :
    V 1000 (os.set (i + k) (s % 1000)) + s / 1000 * 1000 ^ (i + (k + 1)) = vf 1000 (fun j => xs.getD j 0) i * V 1000 ys + xs.getD i 0 * vf 1000 (fun j => ys.getD j 0) (k + 1) * 1000 ^ i := by
  rw [V_set hj]
  have e1 : vf 1000 (fun j => ys.getD j 0) (k + 1) = vf 1000 (fun j => ys.getD j 0) k + ys.getD k 0 * 1000 ^ k := rfl
  rw [e1, Int.mul_add, Int.add_mul]
  have e2 : xs.getD i 0 * (ys.getD k 0 * 1000 ^ k) * 1000 ^ i = xs.getD i 0 * ys.getD k 0 * 1000 ^ (i + k) := by
    rw [Int.pow_add, ← Int.mul_assoc, Int.mul_assoc, Int.mul_comm (1000 ^ k) (1000 ^ i)]
  have e3 : (1000 : Int) ^ (i + (k + 1)) = 1000 * 1000 ^ (i + k) := by rw [← Nat.add_assoc, Int.pow_succ, Int.mul_comm]
  rw [e2, e3, ← Int.mul_assoc]
  have e4 : (s % 1000 - os.getD (i + k) 0) * 1000 ^ (i + k) = s % 1000 * 1000 ^ (i + k) - os.getD (i + k) 0 * 1000 ^ (i + k) := Int.sub_mul _ _ _
  have e5 : s * 1000 ^ (i + k) = (s % 1000 + s / 1000 * 1000) * 1000 ^ (i + k) := by rw [show s % 1000 + s / 1000 * 1000 = s from by omega]
  have e6 : s * 1000 ^ (i + k) = os.getD (i + k) 0 * 1000 ^ (i + k) + xs.getD i 0 * ys.getD k 0 * 1000 ^ (i + k) + c * 1000 ^ (i + k) := by rw [hs, Int.add_mul, Int.add_mul]
  rw [Int.add_mul] at e5
  rw [e4]
  omega

theorem mul_row {os xs ys : List Int} {c : Int} {i m : Nat} (hj : i + m < os.length) (hm : ys.length = m) (hz : os.getD (i + m) 0 = 0)
    (hv : V 1000 os + c * 1000 ^ (i + m) = vf 1000 (fun j => xs.getD j 0) i * V 1000 ys + xs.getD i 0 * vf 1000 (fun j => ys.getD j 0) m * 1000 ^ i) :
    V 1000 (os.set (i + m) c) = vf 1000 (fun j => xs.getD j 0) (i + 1) * V 1000 ys := by
  rw [V_set hj, hz, Int.sub_zero, hv]
  have e1 : vf 1000 (fun j => xs.getD j 0) (i + 1) = vf 1000 (fun j => xs.getD j 0) i + xs.getD i 0 * 1000 ^ i := rfl
  rw [e1, Int.add_mul, vf_ext (xs := ys) (by omega), Int.mul_assoc, Int.mul_comm (V 1000 ys), ← Int.mul_assoc]

set_option maxHeartbeats 1000000 in
theorem mul_any (na nb : Bool) (a b : Option Addr) (n c m d : Nat) (x y : Int) (w : World) (hx : NumC w na a n c x) (hy : NumC w nb b m d y) (fx : Fit x) (fy : Fit y) :
    Calls Try.prog 29 #[.agg #[.bool na, .slice a n c], .agg #[.bool nb, .slice b m d]] w (RetNum w (x * y)) := by
  have hn := hx.len fx
  have hm := hy.len fy
  obtain ⟨xs, hr, hd, ht, hz, hg⟩ := hx
  obtain ⟨ys, kr, kd, kt, kz, kg⟩ := hy
  have HR := Lib.hid hr
  have KR := Lib.hid kr
  have HD := Lib.hid hd
  have KD := Lib.hid kd
  have HZ : Hid ((if na != nb then -(V 1000 xs * V 1000 ys) else V 1000 xs * V 1000 ys) = x * y) := by
    have h : (if na != nb then -(V 1000 xs * V 1000 ys) else V 1000 xs * V 1000 ys) = x * y := by
      rw [hz, kz]; cases na <;> cases nb <;> simp [Int.neg_mul, Int.mul_neg]
    exact Lib.hid h
  have HL := Lib.hid hr.1
  have KL := Lib.hid kr.1
  clear hr hd ht hz hg kr kd kt kz kg
  have q0 : w.heap.size < w.heap.size + 1 + 1 + 1 := by omega
  have q1 : ¬ (w.heap.size + 1 + 1 = w.heap.size) := by omega
  go_enter Try.func29, Try.ntmps29
  go_wp2_with (at_make; refine make_arr .i64 25 3 8 info_int (by decide) Try.underlying25 rfl _ _ rfl .i64 .i64 _ _ (n + m + 1) _ rfl rfl (by omega) (by omega) (by omega) ?_)
  intro w0 harr hb0 hs0
  have k1 : w0.cell? ⟨w.heap.size, 1, none⟩ = some (.slice a n c) := by rw [(bcell hb0).1 _ _ (by omega)]; simp [go_sem]
  have k2 : w0.cell? ⟨w.heap.size + 1, 1, none⟩ = some (.slice b m d) := by rw [(bcell hb0).1 _ _ (by omega)]; simp [go_sem]
  have k3 : w0.cell? ⟨w.heap.size, 0, none⟩ = some (.bool na) := by rw [(bcell hb0).1 _ _ (by omega)]; simp [go_sem]
  have k4 : w0.cell? ⟨w.heap.size + 1, 0, none⟩ = some (.bool nb) := by rw [(bcell hb0).1 _ _ (by omega)]; simp [go_sem]
  have k5 : w0.cell? ⟨w.heap.size + 1 + 1, 0, none⟩ = some (.bool false) := by rw [(bcell hb0).1 _ _ (by omega)]; simp [go_sem]
  have k6 : w0.cell? ⟨w.heap.size + 1 + 1, 1, none⟩ = some (.slice none 0 0) := by rw [(bcell hb0).1 _ _ (by omega)]; simp [go_sem]
  have k7 : ∀ o, w0.frozen? ⟨w.heap.size + 1 + 1, o, none⟩ = false := fun o => by rw [(bcell hb0).2 _ _ (by omega)]; simp [go_sem]
  have hbW : Below w.heap.size w w0 := (((Below.refl _ _).alloc (Nat.le_refl _) _).alloc (by simp) _).alloc (by simp; omega) _ |>.trans (hb0.mono (by omega))
  have HBW := Lib.hid hbW
  have HARR0 := Lib.hid harr
  clear hb0 harr hbW
  go_wp2_with fail
  go_loopg [6] n (fun k u wr => ∃ (i : Nat) (os : List Int), u = .int .i64 i ∧ i + k = n ∧ Arr .i64 3 wr (w.heap.size + 1 + 1 + 1) os ∧ os.length = n + m + 1 ∧ Dig 1000 os ∧
    V 1000 os = vf 1000 (fun j => xs.getD j 0) i * V 1000 ys ∧ (∀ j, i + m ≤ j → os.getD j 0 = 0) ∧ Below (w.heap.size + 1 + 1 + 1) w0 wr)
  case atStart => exact ⟨0, _, rfl, by omega, HARR0.out, by simp, Dig.replicate (by decide) _, by rw [V_replicate]; simp [vf], fun j _ => getD_replicate _ _, Below.refl _ _⟩
  case round =>
    obtain ⟨i, os, rfl, hk, harr, hlo, hdo, hv, hzr, hbel⟩ := hrel
    have HK := Lib.hid hk
    have HARR := Lib.hid harr
    have HLO := Lib.hid hlo
    have HDO := Lib.hid hdo
    have HV := Lib.hid hv
    have HZR := Lib.hid hzr
    have HBE := Lib.hid hbel
    obtain ⟨bc, bf⟩ := bcell hbel
    clear hk harr hlo hdo hv hzr hbel
    by_cases hi : i < n
    · obtain ⟨-, -, -, ha4⟩ := HR.out
      rcases ha4 with hcap0 | ⟨ba, oa, rfl, hba, hca⟩
      · have := HR.out.2.1; omega
      obtain ⟨dx, hdx⟩ : ∃ d, xs.getD i 0 = d := ⟨_, rfl⟩
      have HDX := Lib.hid hdx
      have hxr := HD.out.at (by decide) i
      rw [hdx] at hxr
      have hca1 := hca i hi
      rw [hdx] at hca1
      clear hca hdx
      go_wp2_with fail
      go_loopg [7, 8] m (fun k2 cu u wi => ∃ (k : Nat) (cy : Int) (os : List Int), u = .int .i64 k ∧ cu = .int .i64 cy ∧ k + k2 = m ∧ 0 ≤ cy ∧ cy ≤ 999 ∧ Arr .i64 3 wi (w.heap.size + 1 + 1 + 1) os ∧ os.length = n + m + 1 ∧ Dig 1000 os ∧
        V 1000 os + cy * 1000 ^ (i + k) = vf 1000 (fun j => xs.getD j 0) i * V 1000 ys + xs.getD i 0 * vf 1000 (fun j => ys.getD j 0) k * 1000 ^ i ∧ (∀ j, i + m ≤ j → os.getD j 0 = 0) ∧ Below (w.heap.size + 1 + 1 + 1) w0 wi)
      case atStart => exact ⟨0, 0, os, rfl, rfl, by omega, by omega, by omega, HARR.out, HLO.out, HDO.out, by rw [HV.out]; simp [vf], HZR.out, HBE.out⟩
      case round =>
        obtain ⟨k, cy, os2, rfl, rfl, hk2, hc0, hc1, harr2, hlo2, hdo2, hv2, hzr2, hbel2⟩ := hrel
        have HK2 := Lib.hid hk2
        have HARR2 := Lib.hid harr2
        have HLO2 := Lib.hid hlo2
        have HDO2 := Lib.hid hdo2
        have HV2 := Lib.hid hv2
        have HZR2 := Lib.hid hzr2
        have HBE2 := Lib.hid hbel2
        have hsz2 := hbel2.size
        have hbW2 := HBW.out.trans (hbel2.mono (by omega))
        have hca2 : wr.cell? ⟨ba, oa + i, none⟩ = some (.int .i64 dx) := by rw [(bcell hbW2).1 _ _ hba]; exact hca1
        clear bc bf
        obtain ⟨bc, bf⟩ := bcell hbel2
        clear hk2 harr2 hlo2 hdo2 hv2 hzr2 hbel2
        by_cases hkm : k < m
        · obtain ⟨-, -, -, hb4⟩ := KR.out
          rcases hb4 with hcap0 | ⟨bb, ob, rfl, hbb, hcb⟩
          · have := KR.out.2.1; omega
          have hcb2 : wr.cell? ⟨bb, ob + k, none⟩ = some (.int .i64 (ys.getD k 0)) := by rw [(bcell hbW2).1 _ _ hbb]; exact hcb k hkm
          have hco := HARR2.out.cell (i := i + k) (by rw [HLO2.out]; omega)
          have hfo := HARR2.out.frozen (i + k)
          have hor := HDO2.out.at (by decide) (i + k)
          have hyr := KD.out.at (by decide) k
          obtain ⟨e, he⟩ : ∃ d, ys.getD k 0 = d := ⟨_, rfl⟩
          obtain ⟨o, ho⟩ : ∃ d, os2.getD (i + k) 0 = d := ⟨_, rfl⟩
          rw [he] at hcb2 hyr
          rw [ho] at hco hor
          have HE := Lib.hid he
          have HO := Lib.hid ho
          obtain ⟨hp0, hp1⟩ := prod_bd (A := 999) (B := 999) hxr.1 hyr.1 (by omega) (by omega)
          have e1 : IntKind.i64.wrap ((i : Int) + (k : Int)) = (i : Int) + (k : Int) := IntWalk.i64_in _ (by omega)
          have e2 : IntKind.i64.wrap (dx * e) = dx * e := IntWalk.i64_in _ (by omega)
          have e3 : IntKind.i64.wrap (o + dx * e) = o + dx * e := IntWalk.i64_in _ (by omega)
          have e4 : IntKind.i64.wrap (o + dx * e + cy) = o + dx * e + cy := IntWalk.i64_in _ (by omega)
          have e5 : ((i : Int) + (k : Int)).toNat = i + k := by omega
          have l1 : (0 : Int) ≤ (i : Int) + (k : Int) := by omega
          have l2 : (i : Int) + (k : Int) < (n : Int) + (m : Int) + 1 := by omega
          have l3 : (i : Int) < (n : Int) := by omega
          have l4 : (k : Int) < (m : Int) := by omega
          clear hcb he ho
          go_wp2_with fail
          go_quiet (fail)
          clear e1 e2 e3 e4 e5
          have hs : Hid (o + dx * e + cy = os2.getD (i + k) 0 + xs.getD i 0 * ys.getD k 0 + cy) := by rw [HO.out, HDX.out, HE.out]; exact Lib.hid rfl
          generalize hS : o + dx * e + cy = S at *
          have hS0 : 0 ≤ S := by omega
          have hS1 : S ≤ 999999 := by omega
          clear hS hp0 hp1
          go_wp2_with fail
          go_roundg (gk - 1)
          case measure => have := HK2.out; omega
          case rel => exact ⟨k + 1, S / 1000, os2.set (i + k) (S % 1000), by go_num, rfl, by have := HK2.out; omega, by omega, by omega, HARR2.out.set _ _, by rw [List.length_set]; exact HLO2.out, HDO2.out.set _ (by omega) (by omega),
            mul_step (by rw [HLO2.out]; omega) HV2.out hs.out, fun j hj => by rw [getD_set_ne (by omega)]; exact HZR2.out j hj, (below_drewN HBE2.out nq).setCell (Nat.le_refl _) _⟩
        · obtain rfl : k = m := by have := HK2.out; omega
          have hco := HARR2.out.cell (i := i + k) (by rw [HLO2.out]; omega)
          have hfo := HARR2.out.frozen (i + k)
          rw [HZR2.out (i + k) (by omega)] at hco
          go_wp2_with fail
          go_roundg (n - i - 1)
          case measure => have := HK.out; omega
          case rel => exact ⟨i + 1, os2.set (i + k) cy, by go_num, by have := HK.out; omega, HARR2.out.set _ _, by rw [List.length_set]; exact HLO2.out, HDO2.out.set _ (by omega) (by omega),
            mul_row (by rw [HLO2.out]; omega) KL.out (HZR2.out _ (by omega)) HV2.out, fun j hj => by rw [getD_set_ne (by omega)]; exact HZR2.out j (by omega), HBE2.out.setCell (Nat.le_refl _) _⟩
    · obtain rfl : i = n := by have := HK.out; omega
      have hfull := HARR.out.full (by rw [HLO.out]; omega)
      rw [HLO.out] at hfull
      have hM := Lib.hid (made_any (na != nb) _ _ _ os (x * y) wr (by rw [← HZ.out, HV.out, vf_ext (by rw [HL.out]; exact Nat.le_refl _)]) hfull HDO.out)
      have hsz := HBE.out.size
      clear hfull
      go_wp2_with fail
      refine hM.out.mono ?_
      rintro e w2 ⟨neg2, a2, n2, c2, rfl, hN2, hb2, hf2⟩
      have hb3 := HBE.out.trans (hb2.mono (by omega))
      clear bc bf
      obtain ⟨bc, bf⟩ := bcell hb3
      go_wp2_with fail
      exact bodyPost_ret (v := .agg #[.bool neg2, .slice a2 n2 c2]) (by simp [results, Try.results29, go_sem, bc, k5, k6]) rfl
        (RetNum.stored hN2 (by omega) (HBW.out.trans (hb3.mono (by omega))) (by rw [bc _ _ (by omega)]; exact k5) (by rw [bc _ _ (by omega)]; exact k6) ((Fresh.at (by omega)).same hf2))
end Go.Proofs.Ytnbhcemgoifkgaa
