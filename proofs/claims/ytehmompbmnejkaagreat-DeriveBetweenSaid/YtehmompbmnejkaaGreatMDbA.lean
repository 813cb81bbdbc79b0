/- Cells of facts: their rows under way in memory, and what a cell of facts keeps (plain). Conditions: those stated. -/
import Derived.Test.YtehmompbmnejkaaGreatMDbC
import Derived.Test.YtehmompbmnejkaaGreatMDer
import Derived.Test.YtehmompbmnejkaaGreatMEx4
import Derived.Lib.MinMax
namespace Go.Proofs.YtehmompbmnejkaaGreat
open Go.RowKit Ieee

/-- the own row v and the slice (a, .., c) lie apart -/
def Off (v : Value) (a : Option Addr) (c : Nat) : Prop := c = 0 ∨ ∀ x, a = some x → some x.block ≠ v.ownBlock
theorem Off.nil {a : Option Addr} {c : Nat} : Off (.slice none 0 0) a c := .inr fun x _ he => by simp [Value.ownBlock] at he
theorem Off.fresh {w : World} {B s n : Nat} {e : TypeId} {v : Value} {cs : List Value} {a : Option Addr} {c N : Nat} (h : w.ownsRow B e s v n cs) (hf : Fresh N a) (hN : w.heap.size ≤ N) : Off v a c :=
 .inr fun x hx he => by
  have h1 := hf x hx
  have h2 := (World.ownsRow.lt h _ he.symm).2
  omega
theorem Off.grow {k : IntKind} {w : World} {a : Option Addr} {n c g : Nat} {xs : List Int} {v v' : Value} (h : Off v a c) (hr : RowK k w a n c xs) (hv : v'.ownBlock = some g) (hg : v.ownBlock = some g ∨ w.heap.size ≤ g) : Off v' a c := by
 rcases h with h | h
 ·exact .inl h
 ·rcases hr.lt with h1 | h1
  ·exact .inl h1
  ·refine .inr fun x hx he => ?_
   have h2 : x.block = g := by rw [hv] at he; exact Option.some.inj he
   rcases hg with h3 | h3
   ·exact h x hx (by rw [h3, h2])
   ·have := h1 x hx
    omega
theorem own_apart {w w' : World} {B1 B2 s1 s2 n1 n2 : Nat} {e1 e2 : TypeId} {v1 v2 : Value} {c1 c2 : List Value} (h1 : w.ownsRow B1 e1 s1 v1 n1 c1) (h2 : w.ownsRow B2 e2 s2 v2 n2 c2) (hne : e1 ≠ e2) (hg : w.grownBy w' v2.ownBlock) : w'.ownsRow B1 e1 s1 v1 n1 c1 := by
 refine ⟨h1.1, ?_⟩
 rcases h1.2 with h | ⟨g, cap, cur, hv, hB, hh, r⟩
 ·exact .inl h
 refine .inr ⟨g, cap, cur, hv, hB, ?_, r⟩
 rw [hg.block g (Array.getElem?_eq_some_iff.1 hh).1 ?_]
 ·exact hh
 intro he
 rcases h2.2 with ⟨h, _⟩ | ⟨g2, cap2, cur2, hv2, _, hh2, _⟩
 ·rw [h] at he; cases he
 ·rw [hv2] at he
  have : g = g2 := by simpa [Value.ownBlock] using he
  subst this
  rw [hh] at hh2
  injection hh2 with h3
  injection h3 with _ h4 _
  exact hne h4
/-- one element, laid into a block of its own, is appended: at a step of a region that draws; where the row lies -/
theorem step_append_off {t e : TypeId} {z : Value} {sz bytes : Nat} (hinfo : (Tryz.prog.info? e).map (fun i => (i.zero, i.size, i.bytes)) = some (some z, sz, bytes)) (hzs : z.cells.size = sz) (hsz : 0 < sz) (ht : Tryz.prog.underlying t = some (.slice e))
  {ops : Array Oper} {o : Oper} {a : Act} {K : Act → World → Prop} {Q : Exit → Act → World → Prop} {E : Prop} (hgd : o.guard = none) (s x : Operand)
  (ho : o.op = .call { callee := .builtin .append, args := #[s, x], argTypes := #[t, t] })
  (wr : World) (T : TypeId) (us : Array Value) (B : Nat) (v : Value) (n : Nat) (cs : List Value) (H : Nat) (hH : wr.heap.size = H) (hus : us.size = sz) (hs : a.eval s = v) (hx : a.eval x = .slice (some ⟨H, 0, none⟩) 1 1) (hown : wr.ownsRow B e sz v n cs) (h1 : ∀ u ∈ us, u.oneCell' = true) (hlen : (n + 1) * bytes ≤ 140737488355328) (hmx : n + 1 ≤ maxLen) (hB : B ≤ wr.heap.size)
  (h : ∀ v' w', w'.ownsRow B e sz v' (n + 1) (cs ++ us.toList) → wr.grownBy w' v.ownBlock → (∀ w0, Below B w0 wr → Below B w0 w') → (∃ g, v'.ownBlock = some g ∧ (v.ownBlock = some g ∨ wr.heap.size ≤ g)) → K (a.put o.dst v') w') :
  if Region.wanted o (yielded ops a.tmps) = true then Oper.wp Tryz.prog o a (wr.alloc (.cells us T)) K Q else E := by
 subst hH
 obtain ⟨i0, hi, hz0, hz1, hz2⟩ := info_parts hinfo
 refine step_append_lies _ hgd s x t ho B e i0 z sz bytes ht hi hz0 hz1 hz2 hzs hsz v n cs hs (World.ownsRow.alloc hown _) ⟨wr.heap.size, 0, none⟩ 1 1 us.toList hx (by rw [Array.length_toList, hus, Nat.one_mul]) (World.news_of_block (heap_alloc_new wr _)) (fun u hu => h1 u (Array.mem_toList_iff.1 hu)) (by decide) hmx hlen (by simp; omega) _ rfl ?_
 intro g cap w' h2 h3 h4 _
 have h5 := grown_alloc h3
 refine h _ w' h2 h5 (fun w0 hb => hb.grown h5 hB fun k hk => (World.ownsRow.lt hown k hk).1) ⟨g, rfl, ?_⟩
 rcases h4 with h4 | h4
 ·exact .inl h4
 ·right; simp at h4; omega
theorem whlCells_push : ∀ (l : List Whl) (x : Whl), whlCells (l ++ [x]) = whlCells l ++ [.int .i64 x.sum, .int .i64 x.abs, .slice x.a x.n x.c, .int .i64 x.min, .int .i64 x.max]
 | [], _ => rfl
 | y :: l, x => by rw [List.cons_append]; unfold whlCells; rw [whlCells_push l x]; rfl
theorem relCells_push : ∀ (l : List Rel) (x : Rel), relCells (l ++ [x]) = relCells l ++ [.slice x.a x.n x.c, .float .f64 x.min, .float .f64 x.max]
 | [], _ => rfl
 | y :: l, x => by rw [List.cons_append]; unfold relCells; rw [relCells_push l x]; rfl
theorem info_whl : (Tryz.prog.info? 58).map (fun i => (i.zero, i.size, i.bytes)) = some (some (.agg #[.int .i64 0, .int .i64 0, .slice none 0 0, .int .i64 0, .int .i64 0]), 5, 56) := by kernel_rfl
theorem info_rel : (Tryz.prog.info? 71).map (fun i => (i.zero, i.size, i.bytes)) = some (some (.agg #[.slice none 0 0, .float .f64 0, .float .f64 0]), 3, 40) := by kernel_rfl
theorem info_cell : (Tryz.prog.info? 47).map (fun i => (i.zero, i.size, i.bytes)) = some (some (.agg #[.int .u64 0, .int .i64 0, .slice none 0 0, .slice none 0 0]), 4, 64) := by kernel_rfl
/-- a cell under way: its box C, its two rows -/
structure CU (w : World) (C : Nat) (key count : Int) (vi vn : Value) (xs : List Whl) (ys : List Rel) : Prop where
 blk : Blk w C 47 #[.int .u64 key, .int .i64 count, vi, vn]
 oi : w.ownsRow (C + 1) 58 5 vi xs.length (whlCells xs)
 on : w.ownsRow (C + 1) 71 3 vn ys.length (relCells ys)
 xi : ∀ x ∈ xs, x.at_ w ∧ Off vi x.a x.c ∧ Off vn x.a x.c
 yi : ∀ y ∈ ys, y.at_ w ∧ Off vi y.a y.c ∧ Off vn y.a y.c
section
variable {w w' : World} {C : Nat} {key count : Int} {vi vn v' : Value} {xs : List Whl} {ys : List Rel}
theorem CU.mk0 (h : Blk w C 47 #[.int .u64 key, .int .i64 count, .slice none 0 0, .slice none 0 0]) : CU w C key count (.slice none 0 0) (.slice none 0 0) [] [] :=
 ⟨h, World.ownsRow_nil _ _ _ _, World.ownsRow_nil _ _ _ _, fun x hx => (by cases hx), fun x hx => (by cases hx)⟩
theorem CU.below {N : Nat} (h : CU w C key count vi vn xs ys) (hb : Below N w w') (hN : w.heap.size ≤ N) : CU w' C key count vi vn xs ys :=
 ⟨h.blk.below hb (Nat.lt_of_lt_of_le h.blk.lt hN), own_below h.oi hb hN, own_below h.on hb hN, fun x hx => ⟨⟨(h.xi x hx).1.1.below hb hN, (h.xi x hx).1.2⟩, (h.xi x hx).2⟩, fun y hy => ⟨⟨(h.yi y hy).1.1.below hb hN, (h.yi y hy).1.2⟩, (h.yi y hy).2⟩⟩
theorem CU.drew (h : CU w C key count vi vn xs ys) : CU w.drew C key count vi vn xs ys := h.below (Below.refl w.heap.size w).drew (Nat.le_refl _)
theorem row_keep {k : IntKind} {a : Option Addr} {n c i : Nat} {l : List Int} {v u z : Value} (hr : RowK k w a n c l) (ho : Off v a c) (hg : w.grownBy w' v.ownBlock) (hu : w'.cell? ⟨C, i, none⟩ = some u) (hn : ∀ m, u ≠ .int k m) : RowK k (w'.setCell ⟨C, i, none⟩ z) a n c l := (hr.grown hg ho).set hu hn z
theorem CU.blk_w (h : CU w C key count vi vn xs ys) (hg : w.grownBy w' vi.ownBlock) : Blk w' C 47 #[.int .u64 key, .int .i64 count, vi, vn] := h.blk.grown hg fun he => by have := (World.ownsRow.lt h.oi C he.symm).1; omega
theorem CU.blk_r (h : CU w C key count vi vn xs ys) (hg : w.grownBy w' vn.ownBlock) : Blk w' C 47 #[.int .u64 key, .int .i64 count, vi, vn] := h.blk.grown hg fun he => by have := (World.ownsRow.lt h.on C he.symm).1; omega
theorem below_own {N B s n : Nat} {w0 : World} {e : TypeId} {v : Value} {cs : List Value} (hb : Below N w0 w) (hg : w.grownBy w' v.ownBlock) (hN : N ≤ w.heap.size) (ho : w.ownsRow B e s v n cs) (hB : N ≤ B) : Below N w0 w' :=
 hb.grown hg hN fun k hk => Nat.le_trans hB (World.ownsRow.lt ho k hk).1
theorem below_at {N : Nat} {w0 : World} (h : Below N w0 w) {p : Addr} (hp : N ≤ p.block) (u : Value) : Below N w0 (w.setCell p u) :=
 h.setCell hp u
theorem CU.pushW {g : Nat} (h : CU w C key count vi vn xs ys) (x : Whl) (hx : x.at_ w) (hf : Off vi x.a x.c ∧ Off vn x.a x.c)
  (ho : w'.ownsRow (C + 1) 58 5 v' (xs.length + 1) (whlCells xs ++ [.int .i64 x.sum, .int .i64 x.abs, .slice x.a x.n x.c, .int .i64 x.min, .int .i64 x.max])) (hg : w.grownBy w' vi.ownBlock) (hv : v'.ownBlock = some g) (hvg : vi.ownBlock = some g ∨ w.heap.size ≤ g) :
  CU (w'.setCell ⟨C, 2, none⟩ v') C key count v' vn (xs ++ [x]) ys := by
 have hb : Blk w' C 47 #[.int .u64 key, .int .i64 count, vi, vn] := h.blk.grown hg fun he => by have := (World.ownsRow.lt h.oi C he.symm).1; omega
 have hu : w'.cell? ⟨C, 2, none⟩ = some vi := hb.cell 2
 obtain ⟨p, c, hp⟩ := own_form h.oi
 have hn : ∀ k m, vi ≠ .int k m := fun k m e => by rw [hp] at e; cases e
 have hlt : (⟨C, 2, none⟩ : Addr).block < C + 1 := Nat.lt_succ_self C
 refine ⟨(hb.set_ 2 v').to rfl, ?_, ownsRow_setCell_below (own_apart h.on h.oi (by decide) hg) hlt v', fun z hz => ?_, fun z hz => ?_⟩
 ·have := ownsRow_setCell_below ho hlt v'
  rw [← whlCells_push] at this
  simpa using this
 ·have hz' : z.at_ w ∧ Off vi z.a z.c ∧ Off vn z.a z.c := by
   rcases List.mem_append.1 hz with hz | hz
   ·exact h.xi z hz
   ·rw [List.mem_singleton.1 hz]; exact ⟨hx, hf⟩
  obtain ⟨⟨z1, z2⟩, z3, z4⟩ := hz'
  exact ⟨⟨row_keep z1 z3 hg hu (hn _), z2⟩, z3.grow z1 hv hvg, z4⟩
 ·obtain ⟨⟨z1, z2⟩, z3, z4⟩ := h.yi z hz
  exact ⟨⟨row_keep z1 z3 hg hu (hn _), z2⟩, z3.grow z1 hv hvg, z4⟩
theorem CU.pushR {g : Nat} (h : CU w C key count vi vn xs ys) (y : Rel) (hy : y.at_ w) (hf : Off vi y.a y.c ∧ Off vn y.a y.c)
  (ho : w'.ownsRow (C + 1) 71 3 v' (ys.length + 1) (relCells ys ++ [.slice y.a y.n y.c, .float .f64 y.min, .float .f64 y.max])) (hg : w.grownBy w' vn.ownBlock) (hv : v'.ownBlock = some g) (hvg : vn.ownBlock = some g ∨ w.heap.size ≤ g) :
  CU (w'.setCell ⟨C, 3, none⟩ v') C key count vi v' xs (ys ++ [y]) := by
 have hb : Blk w' C 47 #[.int .u64 key, .int .i64 count, vi, vn] := h.blk.grown hg fun he => by have := (World.ownsRow.lt h.on C he.symm).1; omega
 have hu : w'.cell? ⟨C, 3, none⟩ = some vn := hb.cell 3
 obtain ⟨p, c, hp⟩ := own_form h.on
 have hn : ∀ k m, vn ≠ .int k m := fun k m e => by rw [hp] at e; cases e
 have hlt : (⟨C, 3, none⟩ : Addr).block < C + 1 := Nat.lt_succ_self C
 refine ⟨(hb.set_ 3 v').to rfl, ownsRow_setCell_below (own_apart h.oi h.on (by decide) hg) hlt v', ?_, fun z hz => ?_, fun z hz => ?_⟩
 ·have := ownsRow_setCell_below ho hlt v'
  rw [← relCells_push] at this
  simpa using this
 ·obtain ⟨⟨z1, z2⟩, z3, z4⟩ := h.xi z hz
  exact ⟨⟨row_keep z1 z4 hg hu (hn _), z2⟩, z3, z4.grow z1 hv hvg⟩
 ·have hz' : z.at_ w ∧ Off vi z.a z.c ∧ Off vn z.a z.c := by
   rcases List.mem_append.1 hz with hz | hz
   ·exact h.yi z hz
   ·rw [List.mem_singleton.1 hz]; exact ⟨hy, hf⟩
  obtain ⟨⟨z1, z2⟩, z3, z4⟩ := hz'
  exact ⟨⟨row_keep z1 z4 hg hu (hn _), z2⟩, z3, z4.grow z1 hv hvg⟩
theorem CU.set_far {b i : Nat} {u z : Value} (h : CU w C key count vi vn xs ys) (hb : b < C) (hu : w.cell? ⟨b, i, none⟩ = some u) (hn : ∀ m, u ≠ .int .u32 m) (hm : ∀ m, u ≠ .int .u8 m) : CU (w.setCell ⟨b, i, none⟩ z) C key count vi vn xs ys := by
 have hlt : (⟨b, i, none⟩ : Addr).block < C + 1 := by show b < C + 1; omega
 exact ⟨h.blk.far (by show C ≠ b; omega) z, ownsRow_setCell_below h.oi hlt z, ownsRow_setCell_below h.on hlt z, fun x hx => ⟨⟨(h.xi x hx).1.1.set hu hn z, (h.xi x hx).1.2⟩, (h.xi x hx).2⟩, fun y hy => ⟨⟨(h.yi y hy).1.1.set hu hm z, (h.yi y hy).1.2⟩, (h.yi y hy).2⟩⟩
/-- the answer's box is filled -/
theorem CU.store4 {b n2 c2 n3 c3 : Nat} {t : TypeId} {k0 k1 : Int} {p2 p3 : Option Addr} (h : CU w C key count vi vn xs ys) (hb : b < C) (hk : Blk w b t #[.int .u64 k0, .int .i64 k1, .slice p2 n2 c2, .slice p3 n3 c3]) (z0 z1 z2 z3 : Value) :
  CU ((((w.setCell ⟨b, 0, none⟩ z0).setCell ⟨b, 1, none⟩ z1).setCell ⟨b, 2, none⟩ z2).setCell ⟨b, 3, none⟩ z3) C key count vi vn xs ys ∧ Blk ((((w.setCell ⟨b, 0, none⟩ z0).setCell ⟨b, 1, none⟩ z1).setCell ⟨b, 2, none⟩ z2).setCell ⟨b, 3, none⟩ z3) b t #[z0, z1, z2, z3] := by
 have h0 := h.set_far (z := z0) hb (hk.cell 0) (fun m e => by cases e) (fun m e => by cases e)
 have k0 := (hk.set_ 0 z0).to (cs' := #[z0, .int .i64 k1, .slice p2 n2 c2, .slice p3 n3 c3]) rfl
 have h1 := h0.set_far (z := z1) hb (k0.cell 1) (fun m e => by cases e) (fun m e => by cases e)
 have k1 := (k0.set_ 1 z1).to (cs' := #[z0, z1, .slice p2 n2 c2, .slice p3 n3 c3]) rfl
 have h2 := h1.set_far (z := z2) hb (k1.cell 2) (fun m e => by cases e) (fun m e => by cases e)
 have k2 := (k1.set_ 2 z2).to (cs' := #[z0, z1, z2, .slice p3 n3 c3]) rfl
 exact ⟨h2.set_far (z := z3) hb (k2.cell 3) (fun m e => by cases e) (fun m e => by cases e), (k2.set_ 3 z3).to rfl⟩
theorem below_set4 {b N : Nat} {w0 : World} (h : Below N w0 w) (hb : N ≤ b) (z0 z1 z2 z3 : Value) : Below N w0 ((((w.setCell ⟨b, 0, none⟩ z0).setCell ⟨b, 1, none⟩ z1).setCell ⟨b, 2, none⟩ z2).setCell ⟨b, 3, none⟩ z3) :=
 below_at (below_at (below_at (below_at h (p := ⟨b, 0, none⟩) hb _) (p := ⟨b, 1, none⟩) hb _) (p := ⟨b, 2, none⟩) hb _) (p := ⟨b, 3, none⟩) hb _
theorem CU.done (h : CU w C key count vi vn xs ys) (hk : 0 ≤ key ∧ key ≤ 18446744073709551615) (hc : I64 count) : ∃ l : CellL, vi = .slice l.ai l.ni l.ci ∧ vn = .slice l.an l.nn l.cn ∧ CellAt w l ⟨key, count, xs, ys⟩ := by
 have h1 := h.oi
 have h2 := h.on
 obtain ⟨p, c, hp⟩ := own_form h1
 obtain ⟨q, d, hq⟩ := own_form h2
 rw [hp] at h1
 rw [hq] at h2
 exact ⟨⟨p, xs.length, c, q, ys.length, d⟩, hp, hq, RowG.of_own h1, rfl, RowG.of_own h2, rfl, hk, hc, fun x hx => (h.xi x hx).1, fun y hy => (h.yi y hy).1⟩
end
/-! what a cell of facts keeps -/
def SQ : Int := 2 ^ 126
def WInv (k : Int) (x : Whl) : Prop := Trimmed x.sq ∧ V 4294967296 x.sq ≤ k * SQ ∧ k * x.min ≤ x.sum ∧ x.sum ≤ k * x.max
def RInv (k : Int) (y : Rel) : Prop := codeN y.sum = 0 ∧ keyN y.min ≤ keyN y.max ∧ (y.min % S63 < INF → y.max % S63 < INF → bOf y.sum % 8 = 0 ∧ k * unitsOf y.min ≤ zOf y.sum ∧ zOf y.sum ≤ k * unitsOf y.max)
def CInv (k : Int) (ni nn : Nat) (c : CellV) : Prop := c.key = 0 ∧ c.count = k ∧ c.ints.length = ni ∧ c.nums.length = nn ∧ (∀ x ∈ c.ints, WInv k x) ∧ ∀ y ∈ c.nums, RInv k y
theorem WInv.words {w : World} {k : Int} {x : Whl} (h : WInv k x) (ha : x.at_ w) (hk : k ≤ 1000) : x.n ≤ 20 := by
 obtain ⟨ht, hv, -⟩ := h
 obtain ⟨hr, hd, -⟩ := ha
 rw [← hr.1]
 rcases Nat.lt_or_ge 20 x.sq.length with hlt | hge
 ·exfalso
  have h1 := V_ge (B := 4294967296) (by decide) hd ht (by intro e; rw [e] at hlt; simp at hlt)
  obtain ⟨m, hm⟩ : ∃ m, x.sq.length - 1 = m + 6 := ⟨x.sq.length - 7, by omega⟩
  rw [hm, Int.pow_add] at h1
  have h2 : (1 : Int) ≤ 4294967296 ^ m := by
   have := Int.pow_pos (n := 4294967296) (m := m) (by decide)
   omega
  have h3 : (4294967296 : Int) ^ 6 = 6277101735386680763835789423207666416102355444464034512896 := by decide
  have h4 : SQ = 85070591730234615865843651857942052864 := by decide
  rw [h3] at h1
  rw [h4] at hv
  generalize (4294967296 : Int) ^ m = P at *
  omega
 ·exact hge
theorem WInv.fit {w : World} {k : Int} {x : Whl} (h : WInv k x) (ha : x.at_ w) (hk : k ≤ 500) : 0 ≤ V 4294967296 x.sq ∧ V 4294967296 x.sq ≤ 500 * SQ := by
 obtain ⟨-, hv, -⟩ := h
 have h1 := (V_bd (B := 4294967296) (by decide) ha.2.1).1
 have h4 : SQ = 85070591730234615865843651857942052864 := by decide
 rw [h4] at hv ⊢
 omega
theorem sq_fit {u v : Int} (hu : 0 ≤ u ∧ u ≤ 500 * SQ) (hv : 0 ≤ v ∧ v ≤ 500 * SQ) : Fit u ∧ Fit v ∧ 0 ≤ u + v ∧ (u + v).natAbs < 2 ^ 136 := by
 have h4 : SQ = 85070591730234615865843651857942052864 := by decide
 have h7 : (2 : Nat) ^ 136 = 87112285931760246646623899502532662132736 := by decide
 rw [h4] at hu hv
 refine ⟨Fit.of_pow2 (k := 136) ?_ (by decide), Fit.of_pow2 (k := 136) ?_ (by decide), by omega, ?_⟩ <;> rw [h7] <;> omega
theorem WInv.one {x : Int} {y : Whl} (hx : I64 x) (h1 : y.sum = x) (h2 : y.min = x) (h3 : y.max = x) (ht : Trimmed y.sq) (hv : V 4294967296 y.sq = x * x) : WInv 1 y := by
 refine ⟨ht, ?_, by rw [h1, h2]; omega, by rw [h1, h3]; omega⟩
 rw [hv, show SQ = 9223372036854775808 * 9223372036854775808 from by decide, Int.one_mul]
 obtain ⟨u1, u2⟩ := hx
 have hn : ((x.natAbs * x.natAbs : Nat) : Int) = x * x := Int.natAbs_mul_self
 rw [← hn]
 have h5 : x.natAbs * x.natAbs ≤ 9223372036854775808 * 9223372036854775808 := Nat.mul_le_mul (by omega) (by omega)
 omega
theorem WInv.join {k j : Int} {x y z : Whl} (hk : 0 ≤ k) (hj : 0 ≤ j) (hx : WInv k x) (hy : WInv j y) (h1 : z.sum = x.sum + y.sum) (h2 : z.min = min x.min y.min) (h3 : z.max = max x.max y.max) (ht : Trimmed z.sq) (hv : V 4294967296 z.sq = V 4294967296 x.sq + V 4294967296 y.sq) : WInv (k + j) z := by
 obtain ⟨-, x1, x2, x3⟩ := hx
 obtain ⟨-, y1, y2, y3⟩ := hy
 have a1 := Int.mul_le_mul_of_nonneg_left (Int.min_le_left x.min y.min) hk
 have a2 := Int.mul_le_mul_of_nonneg_left (Int.min_le_right x.min y.min) hj
 have a3 := Int.mul_le_mul_of_nonneg_left (Int.le_max_left x.max y.max) hk
 have a4 := Int.mul_le_mul_of_nonneg_left (Int.le_max_right x.max y.max) hj
 refine ⟨ht, ?_, ?_, ?_⟩
 ·rw [hv, Int.add_mul]; omega
 ·rw [h1, h2, Int.add_mul]; omega
 ·rw [h1, h3, Int.add_mul]; omega
theorem fin_key {x : Nat} (hx : x < 18446744073709551616) : x % S63 < INF ↔ (4503599627370495 < keyN x ∧ keyN x < 18442240474082181120) := by
 unfold keyN
 split
 ·unfold S63 INF at *; omega
 ·split
  ·unfold S63 INF at *; omega
  ·unfold S63 INF at *; omega
theorem fin_mid {a b c : Nat} (ha : a < 18446744073709551616) (hb : b < 18446744073709551616) (hc : c < 18446744073709551616) (h1 : keyN a ≤ keyN b) (h2 : keyN b ≤ keyN c) (fa : a % S63 < INF) (fc : c % S63 < INF) : b % S63 < INF := by
 rw [fin_key ha] at fa
 rw [fin_key hc] at fc
 rw [fin_key hb]
 omega
theorem units_le {a b : Nat} (ha : a < 18446744073709551616) (hb : b < 18446744073709551616) (fa : a % S63 < INF) (fb : b % S63 < INF) (h : keyN a ≤ keyN b) : unitsOf a ≤ unitsOf b := by
 unfold keyN at h
 rw [if_neg (show ¬ INF < a % S63 by omega), if_neg (show ¬ INF < b % S63 by omega)] at h
 unfold unitsOf signU
 by_cases h1 : S63 ≤ a <;> by_cases h2 : S63 ≤ b
 ·rw [if_pos h1, if_pos h2] at h
  simp only [decide_eq_true h1, decide_eq_true h2, if_true]
  have := iv_le (r := b % S63) (s := a % S63) (by unfold S63 INF at *; omega)
  omega
 ·simp only [decide_eq_true h1, decide_eq_false h2, if_true, Bool.false_eq_true, if_false]
  omega
 ·rw [if_neg h1, if_pos h2] at h
  unfold S63 at *
  omega
 ·rw [if_neg h1, if_neg h2] at h
  simp only [decide_eq_false h1, decide_eq_false h2, Bool.false_eq_true, if_false]
  have := iv_le (r := a % S63) (s := b % S63) (by unfold S63 at *; omega)
  omega
theorem or_eight {a b : Nat} (ha : a % 8 = 0) (hb : b % 8 = 0) : (a ||| b) % 8 = 0 := by
 have h := Nat.or_mod_two_pow (a := a) (b := b) (n := 3)
 rw [show 2 ^ 3 = 8 from rfl, ha, hb] at h
 exact h
theorem RInv.join {k j : Int} {x y z : Rel} (hk : 0 ≤ k) (hj : 0 ≤ j) (hx : RInv k x) (hy : RInv j y) (x1 : x.min < 18446744073709551616) (x2 : x.max < 18446744073709551616) (y1 : y.min < 18446744073709551616) (y2 : y.max < 18446744073709551616)
  (h2 : z.min = if keyN y.min < keyN x.min then y.min else x.min) (h3 : z.max = if keyN x.max < keyN y.max then y.max else x.max) (hc : codeN z.sum = 0) (hb : bOf z.sum = bOf x.sum ||| bOf y.sum) (hz : zOf z.sum = zOf x.sum + zOf y.sum) : RInv (k + j) z := by
 obtain ⟨-, kx, fx⟩ := hx
 obtain ⟨-, ky, fy⟩ := hy
 have m1 : keyN z.min ≤ keyN x.min := by rw [h2]; split <;> omega
 have m2 : keyN z.min ≤ keyN y.min := by rw [h2]; split <;> omega
 have m3 : keyN x.max ≤ keyN z.max := by rw [h3]; split <;> omega
 have m4 : keyN y.max ≤ keyN z.max := by rw [h3]; split <;> omega
 have z1 : z.min < 18446744073709551616 := by rw [h2]; split <;> assumption
 have z2 : z.max < 18446744073709551616 := by rw [h3]; split <;> assumption
 refine ⟨hc, by omega, fun f1 f2 => ?_⟩
 have g1 := fin_mid z1 x1 z2 m1 (by omega) f1 f2
 have g2 := fin_mid z1 y1 z2 m2 (by omega) f1 f2
 have g3 := fin_mid z1 x2 z2 (by omega) m3 f1 f2
 have g4 := fin_mid z1 y2 z2 (by omega) m4 f1 f2
 obtain ⟨a1, a2, a3⟩ := fx g1 g3
 obtain ⟨b1, b2, b3⟩ := fy g2 g4
 have c1 := Int.mul_le_mul_of_nonneg_left (units_le z1 x1 f1 g1 m1) hk
 have c2 := Int.mul_le_mul_of_nonneg_left (units_le z1 y1 f1 g2 m2) hj
 have c3 := Int.mul_le_mul_of_nonneg_left (units_le x2 z2 g3 f2 m3) hk
 have c4 := Int.mul_le_mul_of_nonneg_left (units_le y2 z2 g4 f2 m4) hj
 refine ⟨by rw [hb]; exact or_eight a1 b1, ?_, ?_⟩
 ·rw [hz, Int.add_mul]; omega
 ·rw [hz, Int.add_mul]; omega
theorem wrap_in (n : Int) : I64 (IntKind.i64.wrap n) := by rw [IntKind.wrap_i64]; unfold I64; constructor <;> omega
theorem room_136 : 2 ^ 136 ≤ ROOM := by rw [room_eq]; exact Nat.pow_le_pow_right (by decide) (by unfold K2240; decide)
theorem max_in {x y : Int} (hx : I64 x) (hy : I64 y) : I64 (max x y) := by unfold I64 at *; omega
theorem min_in {x y : Int} (hx : I64 x) (hy : I64 y) : I64 (min x y) := by unfold I64 at *; omega
theorem sq_room {x : Int} (hx : I64 x) : 0 ≤ x * x ∧ (x * x).natAbs < ROOM := by
 obtain ⟨u1, u2⟩ := hx
 have hn : ((x.natAbs * x.natAbs : Nat) : Int) = x * x := Int.natAbs_mul_self
 have h5 : x.natAbs * x.natAbs ≤ 9223372036854775808 * 9223372036854775808 := Nat.mul_le_mul (by omega) (by omega)
 have h6 := room_136
 refine ⟨by rw [← hn]; omega, ?_⟩
 rw [← hn, Int.natAbs_natCast]
 refine Nat.lt_of_lt_of_le ?_ h6
 have h7 : (2 : Nat) ^ 136 = 87112285931760246646623899502532662132736 := by decide
 omega
theorem tailB_byt {xs : List Int} (hd : Dig 4294967296 xs) : ∀ j, j ≤ xs.length → Byt (tailB xs j)
 | 0, _ => fun x hx => by unfold tailB at hx; cases hx
 | j + 1, hj => fun x hx => by
  unfold tailB at hx
  rcases List.mem_append.1 hx with hx | hx
  ·exact tailB_byt hd j (by omega) x hx
  ·have h1 := hd _ (getD_mem (xs := xs) (i := xs.length - 1 - j) (by omega))
   generalize xs.getD (xs.length - 1 - j) 0 = y at *
   unfold be4 at hx
   simp only [List.mem_cons, List.not_mem_nil, or_false] at hx
   rcases hx with rfl | rfl | rfl | rfl <;> omega
theorem bytes_byt {b : Nat} {z : Int} {bs : List Int} (h : IsBytes b z bs) (hb : b < 32) (hz : z.natAbs < ROOM) : Byt bs := by
 obtain ⟨xs, l, hd, ht, hv, ⟨hl1, hl2, hl3⟩, rfl⟩ := h
 have hn : xs.length ≤ 70 := by
  rcases Nat.lt_or_ge 70 xs.length with h1 | h1
  ·obtain ⟨q, hq, hq2⟩ := room_words
   have hne : xs ≠ [] := fun h2 => by rw [h2] at h1; exact absurd h1 (by show ¬ 70 < 0; decide)
   have h2 := V_ge (B := 4294967296) (by decide) hd ht hne
   have h3 : (4294967296 : Int) ^ q ≤ 4294967296 ^ (xs.length - 1) := ipow_le (by decide) (by omega)
   rw [hq2] at hz
   have h4 := Int.ofNat_lt.2 hz
   rw [Int.natCast_pow] at h4
   rw [hv] at h2
   have h5 : ((4294967296 : Nat) : Int) = 4294967296 := rfl
   rw [h5] at h4
   omega
  ·exact h1
 intro x hx
 rcases List.mem_append.1 hx with hx | hx
 ·simp only [List.mem_cons, List.not_mem_nil, or_false] at hx
  rcases hx with rfl | rfl | rfl
  ·split <;> omega
  ·omega
  ·omega
 ·exact tailB_byt hd _ (by omega) x hx
theorem FRow.one (w : World) (T : TypeId) (x : Nat) : FRow (w.alloc (.cells #[.float .f64 x] T)) (some ⟨w.heap.size, 0, none⟩) 1 1 [x] := by
 refine ⟨rfl, Nat.le_refl _, by unfold maxLen; omega, .inr ⟨w.heap.size, 0, rfl, by simp, fun i hi => ?_⟩⟩
 obtain rfl : i = 0 := by omega
 exact cell_of_row _ w.heap.size 0 #[.float .f64 x] T (0, 0) (heap_alloc_new w _)
def FineS (b : Nat) (z : Int) : Prop := z.natAbs < ROOM ∧ b < 32 ∧ Plus b z
theorem FineS.add {b x : Nat} {z : Int} (h : FineS b z) : FineS (addF b z x) (addZ z x) :=
 ⟨(Okay.step (s := (b, z)) ⟨h.2.1, h.1⟩ x).2, (Okay.step (s := (b, z)) ⟨h.2.1, h.1⟩ x).1, Plus.step (s := (b, z)) h.2.2 x⟩
theorem FineS.join {b d : Nat} {z y : Int} (h : FineS b z) (k : FineS d y) : FineS (joinF b d z y) (putZ z y) := by
 unfold joinF putZ
 by_cases hr : (z + y).natAbs < ROOM
 ·rw [if_pos hr, if_pos hr]
  refine ⟨hr, Nat.or_lt_two_pow (n := 5) h.2.1 k.2.1, fun hz => ?_⟩
  by_cases h0 : z = 0
  ·have := k.2.2 (by omega)
   exact Nat.le_trans this Nat.right_le_or
  ·exact Nat.le_trans (h.2.2 h0) Nat.left_le_or
 ·rw [if_neg hr, if_neg hr]
  exact h
theorem FineS.read {bs : List Int} (hb : Byt bs) (h : codeN bs = 0) : FineS (bOf bs) (zOf bs) := by
 obtain ⟨-, h2, h3, h4, -⟩ := read_ok hb h
 exact ⟨h3, h2, h4⟩
theorem fine0 : FineS 0 0 := ⟨room_pos, by decide, fun h => absurd rfl h⟩
theorem RInv.one {x : Nat} {y : Rel} (h1 : y.min = x) (h2 : y.max = x) (hb : IsBytes (addF 0 0 x) (addZ 0 x) y.sum) : RInv 1 y := by
 have hf := fine0.add (x := x)
 obtain ⟨c1, c2, c3⟩ := bytes_code hb hf.2.1 hf.1 hf.2.2
 refine ⟨c1, by rw [h1, h2]; exact Nat.le_refl _, fun f1 _ => ?_⟩
 rw [h1] at f1
 rw [c2, c3, h1, h2, Int.one_mul]
 have key : addF 0 0 x % 8 = 0 ∧ addZ 0 x = unitsOf x := by
  by_cases h0 : x % S63 = 0
  ·have hk : kindZ x = 0 := by unfold kindZ; rw [if_neg (by omega), if_neg (by omega), if_pos h0]
   unfold addF addZ
   rw [hk, if_neg (show ¬ (0 : Int) = 3 by decide), if_neg (show ¬ (0 : Int) = 2 by decide), if_pos rfl, if_neg (show ¬ (0 : Int) = 1 by decide)]
   refine ⟨by split <;> rfl, ?_⟩
   unfold unitsOf signU
   rw [h0, iv_zero]
   split <;> rfl
  ·have hk : kindZ x = 1 := kind1.2 ⟨by omega, f1⟩
   have hr : (unitsOf x).natAbs < ROOM := unitsOf_room (iv_room hk).1
   unfold addF addZ putZ addOk
   rw [hk, if_neg (show ¬ (1 : Int) = 3 by decide), if_neg (show ¬ (1 : Int) = 2 by decide), if_neg (show ¬ (1 : Int) = 0 by decide), if_pos (show (1 : Int) = 1 from rfl), Int.zero_add, if_pos hr, decide_eq_true hr]
   exact ⟨rfl, rfl⟩
 rw [key.2]
 exact ⟨key.1, Int.le_refl _, Int.le_refl _⟩
theorem RInv.joined {k j : Int} {x y z : Rel} (hk : 0 ≤ k) (hj : 0 ≤ j) (hx : RInv k x) (hy : RInv j y) (bx : Byt x.sum) (by' : Byt y.sum) (x1 : x.min < 18446744073709551616) (x2 : x.max < 18446744073709551616) (y1 : y.min < 18446744073709551616) (y2 : y.max < 18446744073709551616)
  (h2 : z.min = if keyN y.min < keyN x.min then y.min else x.min) (h3 : z.max = if keyN x.max < keyN y.max then y.max else x.max) (hr : (zOf x.sum + zOf y.sum).natAbs < ROOM) (hb : IsBytes (joinF (bOf x.sum) (bOf y.sum) (zOf x.sum) (zOf y.sum)) (putZ (zOf x.sum) (zOf y.sum)) z.sum) : RInv (k + j) z := by
 have hf := (FineS.read bx hx.1).join (FineS.read by' hy.1)
 obtain ⟨c1, c2, c3⟩ := bytes_code hb hf.2.1 hf.1 hf.2.2
 unfold joinF at c2
 unfold putZ at c3
 rw [if_pos hr] at c2 c3
 exact RInv.join hk hj hx hy x1 x2 y1 y2 h2 h3 c1 c2 c3
end Go.Proofs.YtehmompbmnejkaaGreat
/- The contract of bushelref14's One at no dimension: printed by gen_dbi.py. Conditions: those stated. -/
namespace Go.Proofs.YtehmompbmnejkaaGreat
open Go.RowKit Ieee

theorem three_pbox (w : World) (t1 t2 t3 : TypeId) (c1 c2 c3 : Array Value) :
  let W := ((w.alloc (.cells c1 t1)).alloc (.cells c2 t2)).alloc (.cells c3 t3)
  Blk W w.heap.size t1 c1 ∧ Blk W (w.heap.size + 1) t2 c2 ∧ Blk W (w.heap.size + 2) t3 c3 ∧ Below w.heap.size w W ∧ W.heap.size = w.heap.size + 3 := by
 intro W
 have h1 := Blk.new w t1 c1
 have h2 := Blk.new (w.alloc (.cells c1 t1)) t2 c2
 have h3 := Blk.new ((w.alloc (.cells c1 t1)).alloc (.cells c2 t2)) t3 c3
 have e : ∀ (v : World) (o : Obj), (v.alloc o).heap.size = v.heap.size + 1 := fun v o => by simp
 rw [e] at h2
 rw [e, e] at h3
 exact ⟨(h1.alloc _).alloc _, h2.alloc _, h3, (((Below.refl _ _).alloc (Nat.le_refl _) _).alloc (by rw [e]; omega) _).alloc (by rw [e, e]; omega) _, by simp only [W, e]⟩
/-- a cell that keeps what cells of k facts keep -/
def RCell (k : Int) (ni nn : Nat) (w : World) (e : Ending) (w' : World) : Prop := ∃ (l : CellL) (c : CellV), e = .returned (l.val c) ∧ CellAt w' l c ∧ CInv k ni nn c ∧ Below w.heap.size w w'

theorem one_results {w : World} {s : Nat} {tmps : Array Value} {v0 v1 v2 v3 : Value} (h2 : tmps[6]? = some (.pointer (some ⟨s, 0, none⟩))) (hk : Blk w s 47 #[v0, v1, v2, v3]) :
  (Sem.run Tryz.prog (results Tryz.f16 tmps) w) = .ok (.agg #[v0, v1, v2, v3]) w := by
 have d0 := hk.cell 0
 have d1 := hk.cell 1
 have d2 := hk.cell 2
 have d3 := hk.cell 3
 clear hk
 simp at d0 d1 d2 d3
 simp [results, Tryz.results16, go_sem, h2, d0, d1, d2, d3]
set_option maxRecDepth 100000 in
set_option maxHeartbeats 8000000 in
theorem one_any (w : World) (l : SchL) (g : FacL) (f : FacV) (hf : FactAt w g f) (hd : l.nd ≤ 31) (hi : g.im ≤ 20) (hn : g.nn ≤ 20) :
  Calls Tryz.prog 16 #[l.val, .int .u32 0, g.val] w (RCell 1 g.im g.nn w) := by
 obtain ⟨ad, nd, cd, ai, ni, ci, an, nn, cn, av, nv, cv⟩ := l
 obtain ⟨ca, kn, cc, ia, im, ic, na, mn, nc⟩ := g
 obtain ⟨k1, k2, k3, hbw, hsz⟩ := three_pbox w 26 54 47 #[.slice ad nd cd, .slice ai ni ci, .slice an nn cn, .slice av nv cv] #[.slice ca kn cc, .slice ia im ic, .slice na mn nc] #[.int .u64 0, .int .i64 0, .slice none 0 0, .slice none 0 0]
 have HKEY := Lib.hid (rkey0_any (((w.alloc (.cells #[.slice ad nd cd, .slice ai ni ci, .slice an nn cn, .slice av nv cv] 26)).alloc (.cells #[.slice ca kn cc, .slice ia im ic, .slice na mn nc] 54)).alloc (.cells #[.int .u64 0, .int .i64 0, .slice none 0 0, .slice none 0 0] 47)) ⟨ad, nd, cd, ai, ni, ci, an, nn, cn, av, nv, cv⟩ ca kn cc hd)
 have HF := Lib.hid (hf.below hbw (Nat.le_refl _))
 have HBW := Lib.hid hbw
 have HSM := Lib.hid (And.intro hi hn)
 have e0 := k1.cell 0
 have e1 := k1.cell 1
 have e2 := k1.cell 2
 have e3 := k1.cell 3
 have y0 := k2.cell 0
 simp only [List.getElem?_toArray, List.getElem?_cons_zero, List.getElem?_cons_succ] at e0 e1 e2 e3 y0
 have HK2 := Lib.hid k2
 have HK3 := Lib.hid k3
 have HSZ := Lib.hid hsz
 unfold SchL.val at HKEY
 dsimp only at HKEY hi hn
 clear hf hbw hsz k1 k2 k3 hd
 unfold SchL.val FacL.val
 go_enter Tryz.func16, Tryz.ntmps16
 go_upto_region 1 with fail
 generalize (((w.alloc (.cells #[.slice ad nd cd, .slice ai ni ci, .slice an nn cn, .slice av nv cv] 26)).alloc (.cells #[.slice ca kn cc, .slice ia im ic, .slice na mn nc] 54)).alloc (.cells #[.int .u64 0, .int .i64 0, .slice none 0 0, .slice none 0 0] 47)) = w0 at *
 generalize hS : w.heap.size = S at *
 have HSS := Lib.hid hS
 clear hS
 obtain ⟨N, hN⟩ : ∃ N, w0.heap.size = N := ⟨_, rfl⟩
 have HN := Lib.hid hN
 rw [hN] at HKEY
 clear hN
 go_wp2_with fail
 refine HKEY.out.mono ?_
 rintro e w1 ⟨rfl, hb1⟩
 have HB1 := Lib.hid hb1
 clear hb1 HKEY e0 e1 e2 e3 y0
 go_upto_region 2 with fail

 have hkC := Blk.new w1 47 #[.int .u64 0, .int .i64 1, .slice none 0 0, .slice none 0 0]
 have hbC : Below w1.heap.size w1 (w1.alloc (.cells #[.int .u64 0, .int .i64 1, .slice none 0 0, .slice none 0 0] 47)) := (Below.refl _ _).alloc (Nat.le_refl _) _
 have hNC : N ≤ w1.heap.size := by have := HB1.out.size; rw [HN.out] at this; exact this
 have HBC := Lib.hid (HB1.out.trans (hbC.mono hNC))
 have HCU := Lib.hid (CU.mk0 hkC)
 have HNC := Lib.hid hNC
 have HCN : Hid (N ≤ w1.heap.size + 1) := Lib.hid (by omega)
 generalize (w1.alloc (.cells #[.int .u64 0, .int .i64 1, .slice none 0 0, .slice none 0 0] 47)) = w2 at *
 generalize w1.heap.size = C at *
 clear hkC hbC hNC HB1
 have HLT : Hid (S < N ∧ S + 1 < N ∧ S + 2 < N) := Lib.hid (by rw [← HN.out, HSZ.out]; omega)
 have HFN := Lib.hid (And.intro HF.out.2.1.1 HF.out.2.2.1.1)
 try dsimp only at HFN
 go_wp2_with fail
 go_loopg [8] im (fun gg iu wr => ∃ (j : Nat) (vi : Value) (xs : List Whl), iu = .int .i64 j ∧ j + gg = im ∧ xs.length = j ∧ CU wr C 0 1 vi (.slice none 0 0) xs [] ∧ (∀ x ∈ xs, WInv 1 x) ∧ Below N w0 wr)
 case atStart => exact ⟨0, _, [], rfl, by omega, rfl, HCU.out, fun x hx => (by cases hx), HBC.out⟩
 case round =>
 obtain ⟨j, vi, xs, rfl, hqq, hxl, hcu, hwi, hb⟩ := hrel
 have HQQ := Lib.hid hqq
 have HXJ := Lib.hid hxl
 have HCU0 := Lib.hid hcu
 have HWI := Lib.hid hwi
 have HB := Lib.hid hb
 have HFX := Lib.hid (HF.out.below hb (Nat.le_of_eq HN.out))
 have y1 : wr.cell? ⟨S + 1, 1, none⟩ = some (.slice ia im ic) := by rw [hb.cell (p := ⟨S + 1, 1, none⟩) HLT.out.2.1]; exact HK2.out.cell 1
 clear hqq hxl hcu hwi hb HCU HBC
 by_cases hlt : j < im
 case pos =>
  have HXL : Hid (xs.length ≤ 20) := Lib.hid (by rw [HXJ.out]; omega)
  obtain ⟨b, off, rfl, hbl, hc⟩ := HFX.out.2.1.at hlt
  have c0 := hc j hlt
  have HI := Lib.hid (HFX.out.2.2.2.2.1)
  try dsimp only at c0 HI
  have hx0 : I64 (f.ints.getD j 0) := by
   have hjl : j < f.ints.length := by rw [HFN.out.1]; exact hlt
   rw [List.getD_eq_getElem?_getD, List.getElem?_eq_getElem hjl]
   exact HI.out _ (List.getElem_mem hjl)
  generalize f.ints.getD j 0 = x at *
  have HX := Lib.hid hx0
  clear hc HI hx0
  go_wp2_with fail
  refine (of_any x _ HX.out.1 HX.out.2).mono ?_
  rintro e w3 ⟨ng, na1, nl, nq, rfl, hN1, hb3, -⟩
  have hkM := Blk.new w3 83 #[.bool ng, .slice na1 nl nq]
  have hbM : Below w3.heap.size w3 (w3.alloc (.cells #[.bool ng, .slice na1 nl nq] 83)) := (Below.refl _ _).alloc (Nat.le_refl _) _
  have HN1 := Lib.hid (hN1.below hbM.drew (Nat.le_refl _))
  have hwr : N ≤ wr.heap.size := by have := HB.out.size; rw [HN.out] at this; exact this
  have HCU1 := Lib.hid ((HCU0.out.below hb3 (Nat.le_refl _)).below hbM.drew (Nat.le_refl _))
  have HM1 := Lib.hid hkM.drew
  have HB1 := Lib.hid (HB.out.trans ((hb3.trans (hbM.drew.mono hb3.size)).mono hwr))
  have hNv : ∀ v, Below N w0 v → N ≤ v.heap.size := fun v hv => by have := hv.size; rw [HN.out] at this; exact this
  have HFIT := Lib.hid (fit_i64 HX.out)
  have HXX := Lib.hid (sq_room HX.out)
  obtain ⟨X, hX⟩ : ∃ X, IntKind.i64.wrap (-x) = X := ⟨_, rfl⟩
  have HXW : Hid (I64 X) := Lib.hid (by rw [← hX]; exact wrap_in _)
  go_upto_region 7 with fail
  generalize hM : w3.heap.size = M at *
  clear hbM hb3 hN1 hwr

  refine wp_regionN (fun w' => CU w' C 0 1 vi (.slice none 0 0) xs [] ∧ Blk w' M 83 #[.bool ng, .slice na1 nl nq]) [15, 16, 17] (by kernel_rfl) (by exact ⟨HCU1.out, HM1.out⟩) (fun hHeld => ?_)
  generalize (w3.alloc (.cells #[.bool ng, .slice na1 nl nq] 83)).drew = v1 at *

  refine wpAnyN_u 0 ⟨some 33, _, _, _, _, _⟩ _ rfl ?_
  try simp only [Act.put, putA, putB, putC]
  refine wpAnyN_t 1 ⟨some 34, _, _, _, _, _⟩ ?_ rfl ?_ ?_
  rotate_left 1
  ·(intro w hSw; have v2 : w.cell? ⟨C, 2, none⟩ = some vi := hSw.1.blk.cell 2; have m0 : w.cell? ⟨M, 0, none⟩ = some (.bool ng) := hSw.2.cell 0; have m1 : w.cell? ⟨M, 1, none⟩ = some (.slice na1 nl nq) := hSw.2.cell 1; go_simp; try with_reducible rfl)
  try simp only [Act.put, putA, putB, putC]
  refine wpAnyN_u 2 ⟨some 35, _, _, _, _, _⟩ _ rfl ?_
  try simp only [Act.put, putA, putB, putC]
  refine wpAnyN_u 3 ⟨some 36, _, _, _, _, _⟩ _ rfl ?_
  try simp only [Act.put, putA, putB, putC]
  refine wpAnyN_u 4 ⟨some 37, _, _, _, _, _⟩ _ rfl ?_
  try simp only [Act.put, putA, putB, putC]
  refine wpAnyN_u 5 ⟨some 38, _, _, _, _, _⟩ _ rfl ?_
  try simp only [Act.put, putA, putB, putC]
  refine wpAnyN_u 6 ⟨some 39, _, _, _, _, _⟩ _ rfl ?_
  try simp only [Act.put, putA, putB, putC]
  refine wpAnyN_t 7 ⟨some 40, _, _, _, _, _⟩ ?_ rfl ?_ ?_
  rotate_left 1
  ·(intro w hSw; have v2 : w.cell? ⟨C, 2, none⟩ = some vi := hSw.1.blk.cell 2; have m0 : w.cell? ⟨M, 0, none⟩ = some (.bool ng) := hSw.2.cell 0; have m1 : w.cell? ⟨M, 1, none⟩ = some (.slice na1 nl nq) := hSw.2.cell 1; go_simp; try with_reducible rfl)
  try simp only [Act.put, putA, putB, putC]
  refine wpAnyN_t 8 ⟨some 41, _, _, _, _, _⟩ ?_ rfl ?_ ?_
  rotate_left 1
  ·(intro w hSw; have v2 : w.cell? ⟨C, 2, none⟩ = some vi := hSw.1.blk.cell 2; have m0 : w.cell? ⟨M, 0, none⟩ = some (.bool ng) := hSw.2.cell 0; have m1 : w.cell? ⟨M, 1, none⟩ = some (.slice na1 nl nq) := hSw.2.cell 1; go_simp; try with_reducible rfl)
  try simp only [Act.put, putA, putB, putC]
  refine wpAnyN_u 11 ⟨some 44, _, _, _, _, _⟩ _ rfl ?_
  try simp only [Act.put, putA, putB, putC]
  refine wpAnyN_u 12 ⟨some 45, _, _, _, _, _⟩ _ rfl ?_
  try simp only [Act.put, putA, putB, putC]
  refine wpAnyN_one (i := 9) (o := ⟨some 42, _, _, _, _, _⟩) (by kernel_rfl) rfl (fun K hK => ?_)
  go_simp
  refine (mul_any ng ng na1 na1 nl nq nl nq x x _ HN1.out HN1.out HFIT.out HFIT.out).mono ?_
  rintro e v2 ⟨n2, a2, l2, c2, rfl, hN2, hb2, -⟩
  have HN2 := Lib.hid hN2
  have HCU2 := Lib.hid (HCU1.out.below hb2 (Nat.le_refl _))
  have HM2 := Lib.hid (HM1.out.below hb2 HM1.out.lt)
  have HB2 := Lib.hid (HB1.out.trans (hb2.mono (hNv _ HB1.out)))
  clear hN2 hb2
  refine hK.out _ _ (by exact ⟨HCU2.out, HM2.out⟩) ?_
  clear hK K hHeld
  intro hHeld
  try simp only [Act.put, putA, putB, putC]
  refine wpAnyN_one (i := 10) (o := ⟨some 43, _, _, _, _, _⟩) (by kernel_rfl) rfl (fun K hK => ?_)
  go_simp
  refine (rof_any n2 a2 l2 c2 (x * x) _ HN2.out HXX.out.1 (room_short HN2.out HXX.out.2)).mono ?_
  rintro e v3 ⟨a3, l3, c3, rfl, ⟨sq, hr3, hd3, ht3, hv3⟩, hb3, hf3⟩
  have HQ3 := Lib.hid (And.intro hr3 (And.intro hd3 (And.intro ht3 hv3)))
  have HF3 : Hid (Off vi a3 c3 ∧ Off (.slice none 0 0) a3 c3) := Lib.hid ⟨Off.fresh HCU2.out.oi hf3 (Nat.le_refl _), Off.nil⟩
  have HCU3 := Lib.hid (HCU2.out.below hb3 (Nat.le_refl _))
  have HM3 := Lib.hid (HM2.out.below hb3 HM2.out.lt)
  have HB3 := Lib.hid (HB2.out.trans (hb3.mono (hNv _ HB2.out)))
  clear hr3 hd3 ht3 hv3 hb3 hf3
  refine hK.out _ _ (by exact ⟨HCU3.out, HM3.out⟩) ?_
  clear hK K hHeld
  intro hHeld
  try simp only [Act.put, putA, putB, putC]
  refine wpAnyN_u 13 ⟨some 46, _, _, _, _, _⟩ _ rfl ?_
  try simp only [Act.put, putA, putB, putC]
  refine wpAnyN_one (i := 14) (o := ⟨some 47, _, _, _, _, _⟩) (by kernel_rfl) rfl (fun K hK => ?_)
  go_simp
  have HBA := (Below.refl v3.heap.size v3).alloc (Nat.le_refl _) (.cells #[.int .i64 x, .int .i64 (max x X), .slice a3 l3 c3, .int .i64 x, .int .i64 x] 58)
  have HCU4 := Lib.hid (HCU3.out.below HBA (Nat.le_refl _))
  have HM4 := Lib.hid (HM3.out.below HBA HM3.out.lt)
  clear HBA
  refine hK.out _ _ (by exact ⟨HCU4.out, HM4.out⟩) ?_
  clear hK K hHeld
  intro hHeld
  try simp only [Act.put, putA, putB, putC]
  refine wpAnyN_late (i := 15) (o := ⟨some 48, _, _, _, _, _⟩) (by kernel_rfl) (by kernel_rfl) rfl (fun K hK => ?_)
  refine step_append_off info_whl rfl (by decide) Tryz.underlying44 rfl _ _ (by rfl) v3 58 #[.int .i64 x, .int .i64 (max x X), .slice a3 l3 c3, .int .i64 x, .int .i64 x] (C + 1) vi xs.length (whlCells xs) v3.heap.size rfl rfl (by rfl) (by rfl) HCU3.out.oi (by intro u hu; simp at hu; rcases hu with rfl | rfl | rfl | rfl | rfl <;> rfl) (by have := HXL.out; omega) (by have := HXL.out; unfold maxLen; omega) HCU3.out.blk.lt ?_
  intro va v4 h2 h3 h4 h5
  obtain ⟨ra, rc, rfl⟩ := own_form h2
  obtain ⟨g4, h5, h6⟩ := h5
  have HAP := Lib.hid (And.intro h2 (And.intro h3 (And.intro h5 h6)))
  have HB4 := Lib.hid (below_own HB3.out h3 (hNv _ HB3.out) HCU3.out.oi HCN.out)
  have hk4 := HCU3.out.blk_w h3
  have zc : v4.cell? ⟨C, 2, none⟩ = some vi := hk4.cell 2
  have zf : ∀ o, v4.frozen? ⟨C, o, none⟩ = false := fun o => hk4.frozen o
  clear h2 h3 h4 h5 h6 hk4
  refine hK.out _ _ ?_
  clear hK K
  try simp only [Act.put, putA, putB, putC]
  refine wpAnyN_free (i := 16) (oi := ⟨some 49, _, _, _, _, _⟩) (v := ?_) rfl (by kernel_rfl) (by kernel_rfl) (by kernel_rfl) (by kernel_rfl) (by kernel_rfl) (fun _ _ _ h => h) (Or.inl ⟨by rfl, ?_⟩) ?_
  rotate_left 1
  ·(intro w hSw; clear hSw; go_simp; try with_reducible rfl)
  try simp only [Act.put, putA, putB, putC]
  refine wpAnyN_late (i := 17) (o := ⟨none, _, _, _, _, _⟩) (by kernel_rfl) (by kernel_rfl) rfl (fun K hK => ?_)
  go_simp
  refine hK.out _ _ ?_
  clear hK K
  try simp only [Act.put, putA, putB, putC]
  refine wpAnyN_end (by kernel_rfl) ?_

  have HCU5 := Lib.hid (HCU3.out.pushW ⟨x, max x X, sq, a3, l3, c3, x, x⟩ ⟨HQ3.out.1, HQ3.out.2.1, HX.out, max_in HX.out HXW.out, HX.out, HX.out⟩ HF3.out HAP.out.1 HAP.out.2.1 HAP.out.2.2.1 HAP.out.2.2.2)
  have HW5 : Hid (∀ y ∈ xs ++ [(⟨x, max x X, sq, a3, l3, c3, x, x⟩ : Whl)], WInv 1 y) := Lib.hid (fun y hy => by
   rcases List.mem_append.1 hy with hy | hy
   ·exact HWI.out y hy
   ·rw [List.mem_singleton.1 hy]; exact WInv.one HX.out rfl rfl rfl HQ3.out.2.2.1 HQ3.out.2.2.2)
  have HB5 := Lib.hid (below_at HB4.out (p := ⟨C, 2, none⟩) HNC.out (.slice ra (xs.length + 1) rc))
  generalize v4.setCell ⟨C, 2, none⟩ (.slice ra (xs.length + 1) rc) = v5 at *
  clear zc zf
  go_wp2_with fail
  go_roundg (im - j - 1)
  case measure => have := HQQ.out; omega
  case rel => exact ⟨j + 1, _, _, by go_num, by have := HQQ.out; omega, by rw [List.length_append, HXJ.out]; rfl, HCU5.out, HW5.out, HB5.out⟩

 case neg =>
 obtain rfl : im = j := by have := HQQ.out; omega
 clear hlt
 have HXI := Lib.hid HXJ.out
 go_wp2_with fail
 obtain ⟨wo, hwo⟩ : ∃ wo : World, wo = wr := ⟨_, rfl⟩
 go_loopg [11] mn (fun gg iu wr => ∃ (j : Nat) (vn : Value) (ys : List Rel), iu = .int .i64 j ∧ j + gg = mn ∧ ys.length = j ∧ CU wr C 0 1 vi vn xs ys ∧ (∀ y ∈ ys, RInv 1 y) ∧ Below N w0 wr)
 case atStart => exact ⟨0, _, [], rfl, by omega, rfl, HCU0.out, fun x hx => (by cases hx), HB.out⟩
 case round =>
 clear hwo y1 HCU0 HFX HB HQQ
 obtain ⟨j, vn, ys, rfl, hqq, hyl, hcu, hri, hb⟩ := hrel
 have HQQ := Lib.hid hqq
 have HYJ := Lib.hid hyl
 have HCU := Lib.hid hcu
 have HRI := Lib.hid hri
 have HB := Lib.hid hb
 have HFX := Lib.hid (HF.out.below hb (Nat.le_of_eq HN.out))
 have y2 : wr.cell? ⟨S + 1, 2, none⟩ = some (.slice na mn nc) := by rw [hb.cell (p := ⟨S + 1, 2, none⟩) HLT.out.2.1]; exact HK2.out.cell 2
 clear hqq hyl hcu hri hb
 by_cases hlt : j < mn
 case pos =>
  have HYL : Hid (ys.length ≤ 20) := Lib.hid (by rw [HYJ.out]; omega)
  obtain ⟨b, off, e, hbl, c0⟩ := HFX.out.2.2.1.lt hlt
  have HI := Lib.hid (HFX.out.2.2.2.2.2)
  try dsimp only at e c0 HI
  subst e
  have hx0 : f.nums.getD j 0 < 18446744073709551616 := by
   have hjl : j < f.nums.length := by rw [HFN.out.2]; exact hlt
   rw [List.getD_eq_getElem?_getD, List.getElem?_eq_getElem hjl]
   exact HI.out _ (List.getElem_mem hjl)
  generalize f.nums.getD j 0 = x at *
  have HX := Lib.hid hx0
  clear HI hx0
  have HFI := Lib.hid (fine0.add (x := x))
  have HOF : Hid (∀ v a, FRow v a 1 1 [x] → Calls Tryz.prog 34 #[.slice a 1 1] v (RRV (addF 0 0 x) (addZ 0 x) v)) := Lib.hid (fun v a h => rsof_any v a 1 1 [x] h (fun y hy => by rw [List.mem_singleton.1 hy]; exact HX.out))
  have hNv : ∀ v, Below N w0 v → N ≤ v.heap.size := fun v hv => by have := hv.size; rw [HN.out] at this; exact this
  have HB0 := Lib.hid HB.out.drew
  have HCU0 := Lib.hid HCU.out.drew
  go_upto_region 12 with fail

  refine wp_regionN (fun w' => CU w' C 0 1 vi vn xs ys) [10, 11, 12] (by kernel_rfl) (by exact HCU0.out) (fun hHeld => ?_)
  generalize wr.drew = v0 at *

  refine wpAnyN_u 0 ⟨some 62, _, _, _, _, _⟩ _ rfl ?_
  try simp only [Act.put, putA, putB, putC]
  refine wpAnyN_t 1 ⟨some 63, _, _, _, _, _⟩ ?_ rfl ?_ ?_
  rotate_left 1
  ·(intro w hSw; have v3 : w.cell? ⟨C, 3, none⟩ = some vn := hSw.blk.cell 3; go_simp; try with_reducible rfl)
  try simp only [Act.put, putA, putB, putC]
  refine wpAnyN_u 2 ⟨some 64, _, _, _, _, _⟩ _ rfl ?_
  try simp only [Act.put, putA, putB, putC]
  refine wpAnyN_u 6 ⟨some 68, _, _, _, _, _⟩ _ rfl ?_
  try simp only [Act.put, putA, putB, putC]
  refine wpAnyN_u 7 ⟨some 69, _, _, _, _, _⟩ _ rfl ?_
  try simp only [Act.put, putA, putB, putC]
  refine wpAnyN_one (i := 3) (o := ⟨some 65, _, _, _, _, _⟩) (by kernel_rfl) rfl (fun K hK => ?_)
  go_simp
  have HBA := (Below.refl v0.heap.size v0).alloc (Nat.le_refl _) (.cells #[.float .f64 x] 35)
  have HCU1 := Lib.hid (HCU0.out.below HBA (Nat.le_refl _))
  have HB1 := Lib.hid (HB0.out.trans (HBA.mono (hNv _ HB0.out)))
  have HFR := Lib.hid (FRow.one v0 35 x)
  clear HBA
  generalize v0.heap.size = H0 at *
  generalize v0.alloc (.cells #[.float .f64 x] 35) = v1 at *
  refine hK.out _ _ (by exact HCU1.out) ?_
  clear hK K hHeld
  intro hHeld
  try simp only [Act.put, putA, putB, putC]
  refine wpAnyN_one (i := 4) (o := ⟨some 66, _, _, _, _, _⟩) (by kernel_rfl) rfl (fun K hK => ?_)
  go_simp
  refine (HOF.out _ _ HFR.out).mono ?_
  rintro e v2 ⟨ng, a2, l2, c2, rfl, hN2, hb2⟩
  have HN2 := Lib.hid hN2
  have HCU2 := Lib.hid (HCU1.out.below hb2 (Nat.le_refl _))
  have HB2 := Lib.hid (HB1.out.trans (hb2.mono (hNv _ HB1.out)))
  clear hN2 hb2
  refine hK.out _ _ (by exact HCU2.out) ?_
  clear hK K hHeld
  intro hHeld
  try simp only [Act.put, putA, putB, putC]
  refine wpAnyN_one (i := 5) (o := ⟨some 67, _, _, _, _, _⟩) (by kernel_rfl) rfl (fun K hK => ?_)
  go_simp
  refine (rsbytes_any _ _ _ _ _ _ _ HN2.out HFI.out.1 HFI.out.2.1).mono ?_
  rintro e v3 ⟨a3, l3, c3, bs, rfl, hr3, hi3, hb3, hf3⟩
  have HQ3 := Lib.hid (And.intro hr3 hi3)
  have HF3 : Hid (Off vi a3 c3 ∧ Off vn a3 c3) := Lib.hid ⟨Off.fresh HCU2.out.oi hf3 (Nat.le_refl _), Off.fresh HCU2.out.on hf3 (Nat.le_refl _)⟩
  have HCU3 := Lib.hid (HCU2.out.below hb3 (Nat.le_refl _))
  have HB3 := Lib.hid (HB2.out.trans (hb3.mono (hNv _ HB2.out)))
  clear hr3 hi3 hb3 hf3
  refine hK.out _ _ (by exact HCU3.out) ?_
  clear hK K hHeld
  intro hHeld
  try simp only [Act.put, putA, putB, putC]
  refine wpAnyN_u 8 ⟨some 70, _, _, _, _, _⟩ _ rfl ?_
  try simp only [Act.put, putA, putB, putC]
  refine wpAnyN_one (i := 9) (o := ⟨some 71, _, _, _, _, _⟩) (by kernel_rfl) rfl (fun K hK => ?_)
  go_simp
  have HBA := (Below.refl v3.heap.size v3).alloc (Nat.le_refl _) (.cells #[.slice a3 l3 c3, .float .f64 x, .float .f64 x] 71)
  have HCU4 := Lib.hid (HCU3.out.below HBA (Nat.le_refl _))
  clear HBA
  refine hK.out _ _ (by exact HCU4.out) ?_
  clear hK K hHeld
  intro hHeld
  try simp only [Act.put, putA, putB, putC]
  refine wpAnyN_late (i := 10) (o := ⟨some 72, _, _, _, _, _⟩) (by kernel_rfl) (by kernel_rfl) rfl (fun K hK => ?_)
  refine step_append_off info_rel rfl (by decide) Tryz.underlying45 rfl _ _ (by rfl) v3 71 #[.slice a3 l3 c3, .float .f64 x, .float .f64 x] (C + 1) vn ys.length (relCells ys) v3.heap.size rfl rfl (by rfl) (by rfl) HCU3.out.on (by intro u hu; simp at hu; rcases hu with rfl | rfl | rfl <;> rfl) (by have := HYL.out; omega) (by have := HYL.out; unfold maxLen; omega) HCU3.out.blk.lt ?_
  intro va v4 h2 h3 h4 h5
  obtain ⟨ra, rc, rfl⟩ := own_form h2
  obtain ⟨g4, h5, h6⟩ := h5
  have HAP := Lib.hid (And.intro h2 (And.intro h3 (And.intro h5 h6)))
  have HB4 := Lib.hid (below_own HB3.out h3 (hNv _ HB3.out) HCU3.out.on HCN.out)
  have hk4 := HCU3.out.blk_r h3
  have zc : v4.cell? ⟨C, 3, none⟩ = some vn := hk4.cell 3
  have zf : ∀ o, v4.frozen? ⟨C, o, none⟩ = false := fun o => hk4.frozen o
  clear h2 h3 h4 h5 h6 hk4
  refine hK.out _ _ ?_
  clear hK K
  try simp only [Act.put, putA, putB, putC]
  refine wpAnyN_free (i := 11) (oi := ⟨some 73, _, _, _, _, _⟩) (v := ?_) rfl (by kernel_rfl) (by kernel_rfl) (by kernel_rfl) (by kernel_rfl) (by kernel_rfl) (fun _ _ _ h => h) (Or.inl ⟨by rfl, ?_⟩) ?_
  rotate_left 1
  ·(intro w hSw; clear hSw; go_simp; try with_reducible rfl)
  try simp only [Act.put, putA, putB, putC]
  refine wpAnyN_late (i := 12) (o := ⟨none, _, _, _, _, _⟩) (by kernel_rfl) (by kernel_rfl) rfl (fun K hK => ?_)
  go_simp
  refine hK.out _ _ ?_
  clear hK K
  try simp only [Act.put, putA, putB, putC]
  refine wpAnyN_end (by kernel_rfl) ?_

  have HCU5 := Lib.hid (HCU3.out.pushR ⟨bs, a3, l3, c3, x, x⟩ ⟨HQ3.out.1, bytes_byt HQ3.out.2 HFI.out.2.1 HFI.out.1, HX.out, HX.out⟩ HF3.out HAP.out.1 HAP.out.2.1 HAP.out.2.2.1 HAP.out.2.2.2)
  have HW5 : Hid (∀ y ∈ ys ++ [(⟨bs, a3, l3, c3, x, x⟩ : Rel)], RInv 1 y) := Lib.hid (fun y hy => by
   rcases List.mem_append.1 hy with hy | hy
   ·exact HRI.out y hy
   ·rw [List.mem_singleton.1 hy]; exact RInv.one rfl rfl HQ3.out.2)
  have HB5 := Lib.hid (below_at HB4.out (p := ⟨C, 3, none⟩) HNC.out (.slice ra (ys.length + 1) rc))
  generalize v4.setCell ⟨C, 3, none⟩ (.slice ra (ys.length + 1) rc) = v5 at *
  clear zc zf
  go_wp2_with fail
  go_roundg (mn - j - 1)
  case measure => have := HQQ.out; omega
  case rel => exact ⟨j + 1, _, _, by go_num, by have := HQQ.out; omega, by rw [List.length_append, HYJ.out]; rfl, HCU5.out, HW5.out, HB5.out⟩

 case neg =>
 obtain rfl : mn = j := by have := HQQ.out; omega
 clear hlt
 obtain ⟨l, rfl, rfl, hca⟩ := HCU.out.done ⟨by omega, by omega⟩ ⟨by omega, by omega⟩
 have HCA := Lib.hid hca
 have u0 := HCU.out.blk.cell 0
 have u1 := HCU.out.blk.cell 1
 have u2 := HCU.out.blk.cell 2
 have u3 := HCU.out.blk.cell 3
 simp only [List.getElem?_toArray, List.getElem?_cons_zero, List.getElem?_cons_succ] at u0 u1 u2 u3
 have hk3 : Blk wr (S + 1 + 1) 47 #[.int .u64 0, .int .i64 0, .slice none 0 0, .slice none 0 0] := HK3.out.below HB.out HLT.out.2.2
 have z0 : wr.cell? ⟨S + 1 + 1, 0, none⟩ = some (.int .u64 0) := hk3.cell 0
 have z1 : wr.cell? ⟨S + 1 + 1, 1, none⟩ = some (.int .i64 0) := hk3.cell 1
 have z2 : wr.cell? ⟨S + 1 + 1, 2, none⟩ = some (.slice none 0 0) := hk3.cell 2
 have z3 : wr.cell? ⟨S + 1 + 1, 3, none⟩ = some (.slice none 0 0) := hk3.cell 3
 have zf : ∀ o, wr.frozen? ⟨S + 1 + 1, o, none⟩ = false := fun o => hk3.frozen o
 have HKR := Lib.hid hk3
 clear hca hk3
 go_wp2_with fail
 have hst := HCU.out.store4 (show S + 1 + 1 < C by have := HLT.out.2.2; have := HNC.out; omega) HKR.out (.int .u64 0) (.int .i64 1) (.slice l.ai l.ni l.ci) (.slice l.an l.nn l.cn)
 obtain ⟨l2, q1, q2, hca2⟩ := hst.1.done ⟨by omega, by omega⟩ ⟨by omega, by omega⟩
 refine bodyPost_ret ?_ ?_ (⟨l2, ⟨0, 1, xs, ys⟩, rfl, hca2, ⟨rfl, rfl, HXI.out, HYJ.out, HWI.out, HRI.out⟩, ?_⟩ : RCell 1 im mn w (.returned (l2.val ⟨0, 1, xs, ys⟩)) _)
 rotate_left 2
 ·rw [HSS.out]
  exact below_set4 (HBW.out.trans (HB.out.mono (Nat.le_of_lt HLT.out.1))) (by omega) _ _ _ _
 ·unfold CellL.val
  rw [← q1, ← q2]
  exact one_results rfl hst.2
 ·rfl
end Go.Proofs.YtehmompbmnejkaaGreat
