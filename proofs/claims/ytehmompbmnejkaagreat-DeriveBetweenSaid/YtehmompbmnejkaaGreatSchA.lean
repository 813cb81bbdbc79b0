/- A schema in memory, and the contract of package schema's all. No conditions but those stated. -/
import Derived.Test.YtehmompbmnejkaaGreatRowG
import Derived.Test.YtehmompbmnejkaaGreatMNum
import Derived.Deep.DeepCutAuto
import Derived.Deep.LoopGhost
namespace Go.Proofs.YtehmompbmnejkaaGreat
open Go.RowKit

theorem boxed (w : World) (t : TypeId) (cs : Array Value) : (∀ i, (w.alloc (.cells cs t)).cell? ⟨w.heap.size, i, none⟩ = cs[i]?) ∧ Below w.heap.size w (w.alloc (.cells cs t)) ∧ (w.alloc (.cells cs t)).heap.size = w.heap.size + 1 :=
 ⟨fun i => cell_of_row _ w.heap.size i cs t (0, 0) (heap_alloc_new w _), (Below.refl _ _).alloc (Nat.le_refl _) _, by simp⟩
theorem info_string : (Tryz.prog.info? 9).map (fun i => (i.zero, i.size, i.bytes)) = some (some (.string ByteArray.empty), 1, 16) := by kernel_rfl
def dimCells : List (ByteArray × Int) → List Value
 | [] => []
 | d :: ds => .string d.1 :: .int .i64 d.2 :: dimCells ds
def dimAt (ds : List (ByteArray × Int)) (i : Nat) : ByteArray × Int := ds.getD i (ByteArray.empty, 0)
theorem dimCells_get : ∀ {ds : List (ByteArray × Int)} {i : Nat}, i < ds.length → (dimCells ds).getD (i * 2) undef = .string (dimAt ds i).1 ∧ (dimCells ds).getD (i * 2 + 1) undef = .int .i64 (dimAt ds i).2
 | [], _, h => by simp at h
 | d :: ds, 0, _ => ⟨rfl, rfl⟩
 | d :: ds, i + 1, h => by
  have h2 := dimCells_get (ds := ds) (i := i) (by simpa using h)
  rw [show (i + 1) * 2 = i * 2 + 1 + 1 from by omega]
  simpa [dimCells, dimAt] using h2
/-- what a schema says -/
structure Sch where
 dims : List (ByteArray × Int)
 ints : List ByteArray
 nums : List ByteArray
 views : List Int
def Sch.names (s : Sch) : List ByteArray := s.dims.map (·.1) ++ s.ints ++ s.nums
/-- where it lies -/
structure SchL where
 ad : Option Addr
 nd : Nat
 cd : Nat
 ai : Option Addr
 ni : Nat
 ci : Nat
 an : Option Addr
 nn : Nat
 cn : Nat
 av : Option Addr
 nv : Nat
 cv : Nat
def SchL.val (l : SchL) : Value := .agg #[.slice l.ad l.nd l.cd, .slice l.ai l.ni l.ci, .slice l.an l.nn l.cn, .slice l.av l.nv l.cv]
def SchAt (w : World) (l : SchL) (s : Sch) : Prop :=
 RowG 2 w l.ad l.nd l.cd (dimCells s.dims) ∧ s.dims.length = l.nd ∧ RowS w l.ai l.ni l.ci s.ints ∧ RowS w l.an l.nn l.cn s.nums ∧ RowK .u32 w l.av l.nv l.cv s.views ∧
 (∀ d ∈ s.dims, d.1.size ≤ maxLen ∧ -9223372036854775808 ≤ d.2 ∧ d.2 ≤ 9223372036854775807) ∧ (∀ x ∈ s.ints, x.size ≤ maxLen) ∧ (∀ x ∈ s.nums, x.size ≤ maxLen) ∧ (∀ v ∈ s.views, 0 ≤ v ∧ v ≤ 4294967295)
theorem SchAt.below {w w' : World} {l : SchL} {s : Sch} {B : Nat} (h : SchAt w l s) (hb : Below B w w') (hB : w.heap.size ≤ B) : SchAt w' l s := by
 obtain ⟨h1, h2, h3, h4, h5, h6⟩ := h
 exact ⟨h1.below hb hB, h2, h3.below hb hB, h4.below hb hB, h5.below hb hB, h6⟩
theorem dim_take {ds : List (ByteArray × Int)} {i : Nat} (h : i < ds.length) : ((ds.map (·.1)).take (i + 1)).map Value.string = ((ds.map (·.1)).take i).map Value.string ++ [.string (dimAt ds i).1] := by
 rw [List.take_succ_eq_append_getElem (by simpa using h), List.map_append]
 simp [dimAt, List.getD_eq_getElem?_getD, h]
theorem str_cells {xs : List ByteArray} : ∀ u ∈ xs.map Value.string, u.oneCell' = true := by
 intro u hu
 obtain ⟨z, _, rfl⟩ := List.mem_map.1 hu
 rfl
/-- a call's answer: these strings, in a row of its own -/
def RetStrs (w : World) (xs : List ByteArray) (e : Ending) (w' : World) : Prop := ∃ a c, e = .returned (.slice a xs.length c) ∧ RowS w' a xs.length c xs ∧ Below w.heap.size w w'
theorem RowS.of_g {w : World} {a : Option Addr} {n cap : Nat} {xs : List ByteArray} (h : RowG 1 w a n cap (xs.map Value.string)) : RowS w a n cap xs := by
 obtain ⟨h1, h2, h3, h4⟩ := h
 have hl : xs.length = n := by simpa using h1
 refine ⟨hl, h2, h3, ?_⟩
 rcases h4 with h4 | ⟨b, off, e, hlt, hc⟩
 ·exact .inl h4
 ·exact .inr ⟨b, off, e, hlt, fun i hi => by rw [hc i (by omega), getD_str (by omega)]⟩

set_option maxHeartbeats 2000000 in
theorem all_any (w : World) (l : SchL) (s : Sch) (h : SchAt w l s) (hd : l.nd ≤ 1000) (hi : l.ni ≤ 1000) (hn : l.nn ≤ 1000) :
  Calls Tryz.prog 35 #[l.val] w (RetStrs w s.names) := by
 obtain ⟨ad, nd, cd, ai, ni, ci, an, nn, cn, av, nv, cv⟩ := l
 simp only at hd hi hn
 obtain ⟨hbx, hbw, hsz⟩ := boxed w 26 #[.slice ad nd cd, .slice ai ni ci, .slice an nn cn, .slice av nv cv]
 have HS := Lib.hid (h.below hbw (Nat.le_refl _))
 have HBW := Lib.hid hbw
 obtain ⟨N, hN⟩ : ∃ N, (w.alloc (.cells #[.slice ad nd cd, .slice ai ni ci, .slice an nn cn, .slice av nv cv] 26)).heap.size = N := ⟨_, rfl⟩
 have HN1 : Hid (w.heap.size < N) := Lib.hid (by rw [← hN, hsz]; omega)
 have e0 := hbx 0
 have e1 := hbx 1
 have e2 := hbx 2
 simp only [List.getElem?_toArray, List.getElem?_cons_zero, List.getElem?_cons_succ] at e0 e1 e2
 have HE1 := Lib.hid e1
 have HE2 := Lib.hid e2
 clear h hbw hbx hsz e1 e2
 unfold SchL.val
 go_enter Tryz.func35, Tryz.ntmps35
 go_upto_region 1 with fail
 generalize (w.alloc (.cells #[.slice ad nd cd, .slice ai ni ci, .slice an nn cn, .slice av nv cv] 26)) = w0 at *
 generalize hS : w.heap.size = S at *
 have HSS := Lib.hid hS
 clear hS
 have HN := Lib.hid hN
 clear hN
 go_wp2_with fail
 clear e0
 go_loopg [3, 9] nd (fun q v iu wr => ∃ (i : Nat), iu = .int .i64 i ∧ i + q = nd ∧ wr.ownsRow N 9 1 v i (((s.dims.map (·.1)).take i).map Value.string) ∧ Below N w0 wr)
 case atStart => exact ⟨0, rfl, by omega, World.ownsRow_nil _ _ _ _, Below.refl _ _⟩
 case round =>
  obtain ⟨i, rfl, hq, hown, hb⟩ := hrel
  have HQ := Lib.hid hq
  have HOW := Lib.hid hown
  have HB := Lib.hid hb
  have hsz : N ≤ wr.heap.size := by have := hb.size; rw [HN.out] at this; exact this
  clear hq hown hb
  by_cases hlt : i < nd
  ·obtain ⟨b, off, e, hbl, hc⟩ := (HS.out.1.below HB.out (Nat.le_of_eq HN.out)).at (by show 0 < nd; omega)
   simp only at e
   subst e
   have hlen : s.dims.length = nd := HS.out.2.1
   have c0 := hc (i * 2) (by show i * 2 < nd * 2; omega)
   have c1 := hc (i * 2 + 1) (by show i * 2 + 1 < nd * 2; omega)
   obtain ⟨g0, g1⟩ := dimCells_get (ds := s.dims) (i := i) (by omega)
   rw [g0] at c0
   rw [g1, ← Nat.add_assoc] at c1
   have HT := Lib.hid (dim_take (ds := s.dims) (i := i) (by omega))
   obtain ⟨nm, hnm⟩ : ∃ x, (dimAt s.dims i).1 = x := ⟨_, rfl⟩
   obtain ⟨sz, hsz⟩ : ∃ x, (dimAt s.dims i).2 = x := ⟨_, rfl⟩
   rw [hnm] at c0 HT
   rw [hsz] at c1
   obtain ⟨L0, hL0⟩ : ∃ L, ((s.dims.map (·.1)).take i).map Value.string = L := ⟨_, rfl⟩
   have hown := HOW.out
   rw [hL0] at hown HT
   have HOW1 := Lib.hid hown
   clear hc g0 g1 hnm hsz hlen hown hL0 HOW
   go_wp2_with (at_builtin; refine wpList_append_oneG (z := .string ByteArray.empty) (sz := 1) (bytes := 16) info_string rfl (by decide) Tryz.underlying23 rfl _ _ rfl (wr.alloc (.cells #[.string nm, .int .i64 sz] 56)) _ #[.string nm] N u3 i L0 (wr.heap.size + 1) (by simp) rfl rfl rfl (World.ownsRow.alloc HOW1.out _) (fun u hu => by simp at hu; subst hu; rfl) (by omega) (by unfold maxLen; omega) (by simp; omega) ?_)
   intro v' w' h2 h3 h4
   have HOW2 : Hid (w'.ownsRow N 9 1 v' (i + 1) (((s.dims.map (·.1)).take (i + 1)).map Value.string)) := Lib.hid (by rw [HT.out]; exact h2)
   have HB2 := Lib.hid (h4 w0 (HB.out.alloc hsz _))
   clear h2 h3 h4 c0 c1
   go_wp2_with fail
   go_roundg (nd - i - 1)
   case measure => have := HQ.out; omega
   case rel => exact ⟨i + 1, by go_num, by have := HQ.out; omega, HOW2.out, HB2.out⟩
  ·obtain rfl : i = nd := by have := HQ.out; omega
   have hlen : s.dims.length = i := HS.out.2.1
   have hown := HOW.out
   rw [List.take_of_length_le (by rw [List.length_map, hlen]; exact Nat.le_refl _)] at hown
   have li : s.ints.length = ni := HS.out.2.2.1.1
   have ln : s.nums.length = nn := HS.out.2.2.2.1.1
   have HNL : Hid (s.names.length = i + ni + nn) := Lib.hid (by unfold Sch.names; rw [List.length_append, List.length_append, List.length_map, hlen, li, ln])
   have HNM : Hid (s.names.map Value.string = (s.dims.map (·.1)).map Value.string ++ s.ints.map Value.string ++ s.nums.map Value.string) := Lib.hid (by unfold Sch.names; rw [List.map_append, List.map_append])
   have HI := Lib.hid ((HS.out.2.2.1).below HB.out (Nat.le_of_eq HN.out)).g
   obtain ⟨L1, hL1⟩ : ∃ L, (s.dims.map (·.1)).map Value.string = L := ⟨_, rfl⟩
   obtain ⟨L2, hL2⟩ : ∃ L, s.ints.map Value.string = L := ⟨_, rfl⟩
   obtain ⟨L3, hL3⟩ : ∃ L, s.nums.map Value.string = L := ⟨_, rfl⟩
   have H12 : Hid (∀ u ∈ L2, u.oneCell' = true) := Lib.hid (by rw [← hL2]; exact str_cells)
   have H13 : Hid (∀ u ∈ L3, u.oneCell' = true) := Lib.hid (by rw [← hL3]; exact str_cells)
   rw [hL1] at hown HNM
   rw [hL2] at HI HNM
   have HL3 := Lib.hid hL3
   rw [hL3] at HNM
   have HOW1 := Lib.hid hown
   have e1 : wr.cell? ⟨S, 1, none⟩ = some (.slice ai ni ci) := by rw [HB.out.cell (p := ⟨S, 1, none⟩) HN1.out]; exact HE1.out
   clear hown hlen li ln hL1 hL2 hL3 HOW
   go_upto_region 8 with (at_builtin; refine wpList_append_rowG (z := .string ByteArray.empty) (sz := 1) (bytes := 16) info_string rfl (by decide) Tryz.underlying23 rfl _ _ rfl _ N u3 i _ ai ni ci L2 rfl rfl HOW1.out HI.out H12.out (by omega) (by unfold maxLen; omega) hsz ?_)
   intro v' w' h2 h3 h4
   have HOW2 := Lib.hid h2
   have HB2 := Lib.hid (h4 w0 HB.out)
   have hsz2 : N ≤ w'.heap.size := by have := HB2.out.size; rw [HN.out] at this; exact this
   have hr := ((HS.out.2.2.2.1).below HB2.out (Nat.le_of_eq HN.out)).g
   rw [HL3.out] at hr
   have HR := Lib.hid hr
   clear h2 h3 h4 e1 hr
   go_upto_region 8 with fail
   have e2 : w'.cell? ⟨S, 2, none⟩ = some (.slice an nn cn) := by rw [HB2.out.cell (p := ⟨S, 2, none⟩) HN1.out]; exact HE2.out
   go_wp2_with (at_builtin; refine wpList_append_rowG (z := .string ByteArray.empty) (sz := 1) (bytes := 16) info_string rfl (by decide) Tryz.underlying23 rfl _ _ rfl _ N v' (i + ni) _ an nn cn L3 rfl rfl HOW2.out HR.out H13.out (by omega) (by unfold maxLen; omega) hsz2 ?_)
   intro v3 w3 h2 h3 h4
   obtain ⟨a3, c3, rfl⟩ := own_form h2
   have HOW3 := Lib.hid h2
   have HB3 := Lib.hid (h4 w0 HB2.out)
   clear h2 h3 h4 e2
   go_wp2_with fail
   go_ret
   have hg := RowG.of_own HOW3.out
   rw [← List.append_assoc, ← HNM.out] at hg
   have hnl := HNL.out
   refine ⟨a3, c3, by rw [hnl]; rfl, by rw [hnl]; exact RowS.of_g hg, ?_⟩
   rw [HSS.out]
   exact HBW.out.trans (HB3.out.mono (Nat.le_of_lt HN1.out))
end Go.Proofs.YtehmompbmnejkaaGreat
