/- The walk of Good. -/
import Derived.Test.YtejmmkjpncpedaaGreatOpE
import Derived.Test.YtejmmkjpncpedaaGreatOpF
import Derived.Test.YtejmmkjpncpedaaGreatOpL
import Derived.Test.YtejmmkjpncpedaaGreatRegionF
namespace Go.Proofs.YtejmmkjpncpedaaGreat
open Go.RowKit Go.Esc
set_option linter.unusedVariables false
set_option linter.unusedSimpArgs false
theorem _root_.Go.Esc.Ext.set1 {w0 w : World} {g : Nat} (hx : Ext no w0 w) (hg : w0.heap.size ≤ g) (k : Nat) (v : Value) : Ext no w0 (w.setCell ⟨g, k, none⟩ v) :=
  hx.trans (Ext.setCell w ⟨g, k, none⟩ v (S := just g) rfl) (fun i hi h => by simp only [Esc.just] at h; omega)
theorem _root_.Go.Esc.Blk.other {w : World} {g h : Nat} {cs : List Value} (hb : Blk w h cs) (hne : h ≠ g) (k : Nat) (v : Value) : Blk (w.setCell ⟨g, k, none⟩ v) h cs :=
  ⟨fun i u hi => by rw [World.cell?_setCell_other _ _ _ _ (by intro hh; cases hh; exact hne rfl)]; exact hb.cell i u hi, fun i => by
    have := World.frozen?_setCells g [v] k w ⟨h, i, none⟩
    exact this.trans (hb.fr i)⟩
theorem _root_.Go.Esc.Blk.alloc {w : World} {g : Nat} {cs : List Value} (hb : Blk w g cs) (hn : cs ≠ []) (o : Obj) : Blk (w.alloc o) g cs := hb.ext hn (Ext.alloc no w o) (fun h => h)
theorem goodKey_at (s : List UInt8) (r : Nat) (h : r = s.length % 3) : ([.string { data := #[97] }, .string { data := #[98] }, .string { data := #[120] }] : List Value)[r]? = some (.string (str (goodKey s))) := by
  have : r = 0 ∨ r = 1 ∨ r = 2 := by omega
  unfold goodKey
  rcases this with h1 | h1 | h1 <;> subst h1
  · rw [if_pos (by omega)]; rfl
  · rw [if_neg (by omega), if_pos (by omega)]; rfl
  · rw [if_neg (by omega), if_neg (by omega)]; rfl
theorem goodText_at (s : List UInt8) (r : Nat) (h : r = s.length % 4) : ([.string { data := #[] }, .string { data := #[116] }, .string { data := #[85, 32] }, .string { data := #[32, 118] }] : List Value)[r]? = some (.string (str (goodText s))) := by
  have : r = 0 ∨ r = 1 ∨ r = 2 ∨ r = 3 := by omega
  unfold goodText
  rcases this with h1 | h1 | h1 | h1 <;> subst h1
  · rw [if_pos (by omega)]; rfl
  · rw [if_neg (by omega), if_pos (by omega)]; rfl
  · rw [if_neg (by omega), if_neg (by omega), if_pos (by omega)]; rfl
  · rw [if_neg (by omega), if_neg (by omega), if_neg (by omega)]; rfl
theorem rd_at {w : World} {b j : Nat} {cs : List Value} {v : Value} (h : Rd w (some ⟨b, 0, none⟩) cs) (hj : cs[j]? = some v) : w.cell? ⟨b, j, none⟩ = some v := by
  obtain ⟨ad, ha, hc⟩ := h j v hj
  cases ha
  rw [Addr.add_lit] at hc
  simpa using hc
theorem _root_.Go.Esc.Rd.at (w : World) (cs : Array Value) (e : TypeId) (g : Nat) (hg : g = w.heap.size) : Rd (w.alloc (.cells cs e)) (some ⟨g, 0, none⟩) cs.toList := hg ▸ Rd.lit w cs e _
theorem emptied3 (w : World) (te : TypeId) : Own (w.alloc (.cells #[] te)) w.heap.size (some ⟨w.heap.size, 0, none⟩) 3 0 0 [] :=
  Own.fresh w _ _ _ _ _ _ _ _ (Nat.le_refl _) (by simp) (Nat.le_refl _) (Nat.zero_le _) (by simp) (by simp) (.inl (Nat.le_refl _))
theorem ds_take (l : List DotR) (k : Nat) : (ds l).take (k * 3) = ds (l.take k) := by
  induction l generalizing k with
  | nil => simp [ds]
  | cons d l ih =>
    cases k with
    | zero => simp [ds]
    | succ k =>
      have : (k + 1) * 3 = k * 3 + 1 + 1 + 1 := by omega
      rw [this]
      have := ih k
      simp [ds, DotR.cells] at this ⊢
      exact this
theorem ds_drop (l : List DotR) (k : Nat) : (ds l).drop (k * 3) = ds (l.drop k) := by
  induction l generalizing k with
  | nil => simp [ds]
  | cons d l ih =>
    cases k with
    | zero => simp [ds]
    | succ k =>
      have : (k + 1) * 3 = k * 3 + 1 + 1 + 1 := by omega
      rw [this]
      have := ih k
      simp [ds, DotR.cells] at this ⊢
      exact this
theorem ds_one (l : List DotR) : ∀ u ∈ ds l, u.oneCell' = true := by
  intro u hu
  unfold ds at hu
  obtain ⟨d, _, hd⟩ := List.mem_flatMap.1 hu
  simp [DotR.cells] at hd
  rcases hd with rfl | rfl | rfl <;> rfl
theorem eqv_parts {q d : DotR} (h : q.eqv d = true) : q.dev = d.dev ∧ q.ep = d.ep ∧ q.seq = d.seq := by
  have := (DotR.eqv_iff q d).1 h
  subst this
  exact ⟨rfl, rfl, rfl⟩
theorem eqv_not {q d : DotR} (h : q.eqv d = false) : q.dev = d.dev → q.ep = d.ep → ¬ q.seq = d.seq := by
  intro h1 h2 h3
  have : q = d := by obtain ⟨a, b, c⟩ := q; obtain ⟨a', b', c'⟩ := d; simp at h1 h2 h3; subst h1 h2 h3; rfl
  rw [(DotR.eqv_iff q d).2 this] at h
  cases h
theorem results_cell1 {P : Program} {fn : Func} {p : Tmp} {ty : TypeId} (h : fn.results = #[.cell p ty]) (tmps : Array Value) (w : World) :
    (results fn tmps).run P w = ((asAddr (tmps.getD p undef)).run P w).andThen fun a w₁ => (loadVar ty a).run P w₁ := by
  simp only [results, h]
  simp [Sem.run_bind, Result.andThen]
theorem good_dots_end (o : OpR) (i : Nat) (h : (1 + o.kind % 5 = 3 ∧ (o.dots.length ≤ i ∨ 8 ≤ i) ∧ i ≤ 8) ∨ (i = 0 ∧ (o.dots.length ≤ 0 ∨ 1 + o.kind % 5 ≠ 3))) : insN o.dots i = (goodOp o).dots := by
  unfold goodOp; simp only
  rcases h with ⟨h1, h2, h3⟩ | ⟨rfl, h⟩
  · rw [if_pos h1]
    unfold insN goodDots
    by_cases h8 : i = 8
    · rw [h8]
    · rw [List.take_of_length_le (by omega), List.take_of_length_le (by omega)]
  · by_cases h3 : 1 + o.kind % 5 = 3
    · rw [if_pos h3]
      have h0 : o.dots = [] := List.eq_nil_of_length_eq_zero (by rcases h with h | h; omega; exact absurd h3 h)
      rw [h0]; rfl
    · rw [if_neg h3]; rfl
set_option maxRecDepth 100000 in
set_option maxHeartbeats 16000000 in
theorem good_any (w : World) (o : OpR) (a : Option Addr) (c : Nat) (hok : o.ok) (hrw : Rd w a (ds o.dots)) (hl : o.dots.length ≤ c) (hc : c ≤ maxLen) :
    Calls Tryz.prog 13 #[o.v a c] w fun e w' => ∃ a' c', e = .returned ((goodOp o).v a' c') ∧ Rd w' a' (ds (goodOp o).dots) ∧ (goodOp o).dots.length ≤ c' ∧ c' ≤ maxLen ∧ Ext no w w' ∧ ∀ ad, a' = some ad → w.heap.size ≤ ad.block := by
  unfold maxLen at hc
  go_enter Tryz.func13, Tryz.ntmps13
  unfold OpR.v
  go_upto_region 1 with fail
  have hb1 := Blk.lit w #[.int .i64 o.dot.dev, .int .i64 o.dot.ep, .int .i64 o.dot.seq, .int .i64 o.coll, .int .i64 o.ver, .int .i64 o.kind, .string (str o.key), .string (str o.text), .int .i64 o.n, .int .i64 o.time, .slice a o.dots.length c] 51
  have hx1 := Ext.alloc no w (.cells #[.int .i64 o.dot.dev, .int .i64 o.dot.ep, .int .i64 o.dot.seq, .int .i64 o.coll, .int .i64 o.ver, .int .i64 o.kind, .string (str o.key), .string (str o.text), .int .i64 o.n, .int .i64 o.time, .slice a o.dots.length c] 51)
  have hb2 := Blk.at (w.alloc (.cells #[.int .i64 o.dot.dev, .int .i64 o.dot.ep, .int .i64 o.dot.seq, .int .i64 o.coll, .int .i64 o.ver, .int .i64 o.kind, .string (str o.key), .string (str o.text), .int .i64 o.n, .int .i64 o.time, .slice a o.dots.length c] 51)) #[.int .i64 0, .int .i64 0, .int .i64 0, .int .i64 0, .int .i64 0, .int .i64 0, .string { data := #[] }, .string { data := #[] }, .int .i64 0, .int .i64 0, .slice none 0 0] 51 (w.heap.size + 1) (by simp)
  have hx2 := Ext.alloc no (w.alloc (.cells #[.int .i64 o.dot.dev, .int .i64 o.dot.ep, .int .i64 o.dot.seq, .int .i64 o.coll, .int .i64 o.ver, .int .i64 o.kind, .string (str o.key), .string (str o.text), .int .i64 o.n, .int .i64 o.time, .slice a o.dots.length c] 51)) (.cells #[.int .i64 0, .int .i64 0, .int .i64 0, .int .i64 0, .int .i64 0, .int .i64 0, .string { data := #[] }, .string { data := #[] }, .int .i64 0, .int .i64 0, .slice none 0 0] 51)
  have hb1' := hb1.ext (by simp) hx2 (fun h => h)
  have hx := hx1.comp hx2
  clear hb1 hx1 hx2
  generalize (w.alloc (.cells #[.int .i64 o.dot.dev, .int .i64 o.dot.ep, .int .i64 o.dot.seq, .int .i64 o.coll, .int .i64 o.ver, .int .i64 o.kind, .string (str o.key), .string (str o.text), .int .i64 o.n, .int .i64 o.time, .slice a o.dots.length c] 51)).alloc (.cells #[.int .i64 0, .int .i64 0, .int .i64 0, .int .i64 0, .int .i64 0, .int .i64 0, .string { data := #[] }, .string { data := #[] }, .int .i64 0, .int .i64 0, .slice none 0 0] 51) = w1 at *
  have hsz := hb2.lt (by simp)
  have hr1 := hrw.ext hx (fun _ _ h => h)
  have hb0 : Blk w1 w.heap.size (o.cells a c) := hb1'
  clear hb1'
  obtain ⟨g, hg⟩ : ∃ g, g = w.heap.size := ⟨_, rfl⟩
  have hgw : w.heap.size ≤ g := by omega
  rw [← hg] at hb0 hb2 hsz ⊢
  clear hg
  have b0 := hb0.cell 0 _ rfl
  have b1 := hb0.cell 1 _ rfl
  have b2 := hb0.cell 2 _ rfl
  have f0 := hb0.fr 0
  have f1 := hb0.fr 1
  have f2 := hb0.fr 2
  have hS0 := Ext.drew no w1
  --<A
  refine wp_region_E [2, 6, 11] (fun z => Ext no w1 z) (by kernel_rfl) ?_
  refine wpE_take 0 (v := ?_) rfl (by kernel_rfl) (by kernel_rfl) (by kernel_rfl) (fun _ _ _ h => h) hS0 (by rfl) ?_ ?_
  rotate_left
  · (intro wq; go_simp; try with_reducible rfl)
  simp only [pz]
  refine wpE_take 1 (v := ?_) rfl (by kernel_rfl) (by kernel_rfl) (by kernel_rfl) (fun _ _ _ h => h) hS0 (by rfl) ?_ ?_
  rotate_left
  · (intro wq; go_simp; try with_reducible rfl)
  simp only [pz]
  refine wpE_look 2 (v := .int .i64 o.dot.dev) rfl rfl (by kernel_rfl) (by kernel_rfl) (by kernel_rfl) (by kernel_rfl) (fun _ _ _ h => h) hS0 (by rfl) (fun w hS => by have q := hS.keeps b0 (fun h => h); go_simp) ?_
  simp only [pz]
  refine wpE_take 4 (v := ?_) rfl (by kernel_rfl) (by kernel_rfl) (by kernel_rfl) (fun _ _ _ h => h) hS0 (by rfl) ?_ ?_
  rotate_left
  · (intro wq; go_simp; try with_reducible rfl)
  simp only [pz]
  refine wpE_take 5 (v := ?_) rfl (by kernel_rfl) (by kernel_rfl) (by kernel_rfl) (fun _ _ _ h => h) hS0 (by rfl) ?_ ?_
  rotate_left
  · (intro wq; go_simp; try with_reducible rfl)
  simp only [pz]
  refine wpE_look 6 (v := .int .i64 o.dot.ep) rfl rfl (by kernel_rfl) (by kernel_rfl) (by kernel_rfl) (by kernel_rfl) (fun _ _ _ h => h) hS0 (by rfl) (fun w hS => by have q := hS.keeps b1 (fun h => h); go_simp) ?_
  simp only [pz]
  refine wpE_take 9 (v := ?_) rfl (by kernel_rfl) (by kernel_rfl) (by kernel_rfl) (fun _ _ _ h => h) hS0 (by rfl) ?_ ?_
  rotate_left
  · (intro wq; go_simp; try with_reducible rfl)
  simp only [pz]
  refine wpE_take 10 (v := ?_) rfl (by kernel_rfl) (by kernel_rfl) (by kernel_rfl) (fun _ _ _ h => h) hS0 (by rfl) ?_ ?_
  rotate_left
  · (intro wq; go_simp; try with_reducible rfl)
  simp only [pz]
  refine wpE_look 11 (v := .int .i64 o.dot.seq) rfl rfl (by kernel_rfl) (by kernel_rfl) (by kernel_rfl) (by kernel_rfl) (fun _ _ _ h => h) hS0 (by rfl) (fun w hS => by have q := hS.keeps b2 (fun h => h); go_simp) ?_
  simp only [pz]
  refine wpE_exec 3 rfl (by kernel_rfl) (by rfl) ?_
  intro K hK
  go_simp
  refine (within_any o.dot.dev 6 w1.drew (by omega) (by omega) hok.dot.1).mono ?_
  rintro e w5 ⟨rfl, rfl⟩
  skip
  refine hK _ _ (fun z => Ext no w1 z) (.inr (fun z h => h)) hS0 ?_
  clear hK K
  refine wpE_exec 7 rfl (by kernel_rfl) (by rfl) ?_
  intro K hK
  go_simp
  refine (within_any o.dot.ep 3 w1.drew (by omega) (by omega) hok.dot.2.1).mono ?_
  rintro e w5 ⟨rfl, rfl⟩
  skip
  refine hK _ _ (fun z => Ext no w1 z) (.inr (fun z h => h)) hS0 ?_
  clear hK K
  refine wpE_take 8 (v := .int .i64 (1 + o.dot.ep % 3)) rfl (by kernel_rfl) (by kernel_rfl) (by kernel_rfl) (fun _ _ _ h => h) hS0 (by rfl) (by intro wq; go_simp; rw [IntKind.wrap_i64]; omega) ?_
  simp only [pz]
  refine wpE_exec 12 rfl (by kernel_rfl) (by rfl) ?_
  intro K hK
  go_simp
  refine (within_any o.dot.seq 30 w1.drew (by omega) (by omega) hok.dot.2.2).mono ?_
  rintro e w5 ⟨rfl, rfl⟩
  skip
  refine hK _ _ (fun z => Ext no w1 z) (.inr (fun z h => h)) hS0 ?_
  clear hK K
  refine wpE_take 13 (v := .int .i64 (1 + o.dot.seq % 30)) rfl (by kernel_rfl) (by kernel_rfl) (by kernel_rfl) (fun _ _ _ h => h) hS0 (by rfl) (by intro wq; go_simp; rw [IntKind.wrap_i64]; omega) ?_
  simp only [pz]
  refine wpE_take 14 (v := ?_) rfl (by kernel_rfl) (by kernel_rfl) (by kernel_rfl) (fun _ _ _ h => h) hS0 (by rfl) ?_ ?_
  rotate_left
  · (intro wq; go_simp; try with_reducible rfl)
  simp only [pz]
  refine wpE_take 15 (v := ?_) rfl (by kernel_rfl) (by kernel_rfl) (by kernel_rfl) (fun _ _ _ h => h) hS0 (by rfl) ?_ ?_
  rotate_left
  · (intro wq; go_simp; try with_reducible rfl)
  simp only [pz]
  refine wpE_exec 16 rfl (by kernel_rfl) (by rfl) ?_
  intro K hK
  go_simp
  have hS9 := trivial
  refine hK _ _ (fun x => True) (.inl (by kernel_rfl)) hS9 ?_
  clear hK K
  refine wpE_done (by kernel_rfl) ?_ _
  go_upto_region 2 with fail
  have hbw3 : Blk (((w1.setCell ⟨g, 0, none⟩ (.int .i64 (o.dot.dev % 6))).setCell ⟨g, 1, none⟩ (.int .i64 (1 + o.dot.ep % 3))).setCell ⟨g, 2, none⟩ (.int .i64 (1 + o.dot.seq % 30))).drew g [.int .i64 (o.dot.dev % 6), .int .i64 (1 + o.dot.ep % 3), .int .i64 (1 + o.dot.seq % 30), .int .i64 o.coll, .int .i64 o.ver, .int .i64 o.kind, .string (str o.key), .string (str o.text), .int .i64 o.n, .int .i64 o.time, .slice a o.dots.length c] := (((hb0.set 0 (.int .i64 (o.dot.dev % 6)) (by simp [OpR.cells])).set 1 (.int .i64 (1 + o.dot.ep % 3)) (by simp [OpR.cells])).set 2 (.int .i64 (1 + o.dot.seq % 30)) (by simp [OpR.cells])).drew
  have hzw3 := (((hb2.other (g := g) (by omega) 0 (.int .i64 (o.dot.dev % 6))).other (g := g) (by omega) 1 (.int .i64 (1 + o.dot.ep % 3))).other (g := g) (by omega) 2 (.int .i64 (1 + o.dot.seq % 30))).drew
  have hxw3 := ((((hx.set1 hgw 0 (.int .i64 (o.dot.dev % 6))).set1 hgw 1 (.int .i64 (1 + o.dot.ep % 3))).set1 hgw 2 (.int .i64 (1 + o.dot.seq % 30))).comp (Ext.drew no _))
  clear hb0 hb2 hx
  generalize (((w1.setCell ⟨g, 0, none⟩ (.int .i64 (o.dot.dev % 6))).setCell ⟨g, 1, none⟩ (.int .i64 (1 + o.dot.ep % 3))).setCell ⟨g, 2, none⟩ (.int .i64 (1 + o.dot.seq % 30))).drew = w3 at *
  clear b0 b1 b2 f0 f1 f2 hS0 hS9
  have e3 := hbw3.cell 3 _ rfl
  have h3 := hbw3.fr 3
  have e4 := hbw3.cell 4 _ rfl
  have h4 := hbw3.fr 4
  have e5 := hbw3.cell 5 _ rfl
  have h5 := hbw3.fr 5
  have e9 := hbw3.cell 9 _ rfl
  have h9 := hbw3.fr 9
  have hS0 := Ext.drew no w3
  --<B
  refine wp_region_E [1, 4, 8, 12] (fun z => Ext no w3 z) (by kernel_rfl) ?_
  refine wpE_take 0 (v := ?_) rfl (by kernel_rfl) (by kernel_rfl) (by kernel_rfl) (fun _ _ _ h => h) hS0 (by rfl) ?_ ?_
  rotate_left
  · (intro wq; go_simp; try with_reducible rfl)
  simp only [pz]
  refine wpE_look 1 (v := .int .i64 o.coll) rfl rfl (by kernel_rfl) (by kernel_rfl) (by kernel_rfl) (by kernel_rfl) (fun _ _ _ h => h) hS0 (by rfl) (fun w hS => by have q := hS.keeps e3 (fun h => h); go_simp) ?_
  simp only [pz]
  refine wpE_take 3 (v := ?_) rfl (by kernel_rfl) (by kernel_rfl) (by kernel_rfl) (fun _ _ _ h => h) hS0 (by rfl) ?_ ?_
  rotate_left
  · (intro wq; go_simp; try with_reducible rfl)
  simp only [pz]
  refine wpE_look 4 (v := .int .i64 o.ver) rfl rfl (by kernel_rfl) (by kernel_rfl) (by kernel_rfl) (by kernel_rfl) (fun _ _ _ h => h) hS0 (by rfl) (fun w hS => by have q := hS.keeps e4 (fun h => h); go_simp) ?_
  simp only [pz]
  refine wpE_take 7 (v := ?_) rfl (by kernel_rfl) (by kernel_rfl) (by kernel_rfl) (fun _ _ _ h => h) hS0 (by rfl) ?_ ?_
  rotate_left
  · (intro wq; go_simp; try with_reducible rfl)
  simp only [pz]
  refine wpE_look 8 (v := .int .i64 o.kind) rfl rfl (by kernel_rfl) (by kernel_rfl) (by kernel_rfl) (by kernel_rfl) (fun _ _ _ h => h) hS0 (by rfl) (fun w hS => by have q := hS.keeps e5 (fun h => h); go_simp) ?_
  simp only [pz]
  refine wpE_take 11 (v := ?_) rfl (by kernel_rfl) (by kernel_rfl) (by kernel_rfl) (fun _ _ _ h => h) hS0 (by rfl) ?_ ?_
  rotate_left
  · (intro wq; go_simp; try with_reducible rfl)
  simp only [pz]
  refine wpE_look 12 (v := .int .i64 o.time) rfl rfl (by kernel_rfl) (by kernel_rfl) (by kernel_rfl) (by kernel_rfl) (fun _ _ _ h => h) hS0 (by rfl) (fun w hS => by have q := hS.keeps e9 (fun h => h); go_simp) ?_
  simp only [pz]
  refine wpE_exec 2 rfl (by kernel_rfl) (by rfl) ?_
  intro K hK
  go_simp
  refine (within_any o.coll 3 w3.drew (by omega) (by omega) hok.coll).mono ?_
  rintro e w5 ⟨rfl, rfl⟩
  skip
  refine hK _ _ (fun z => Ext no w3 z) (.inr (fun z h => h)) hS0 ?_
  clear hK K
  refine wpE_take 14 (v := ?_) rfl (by kernel_rfl) (by kernel_rfl) (by kernel_rfl) (fun _ _ _ h => h) hS0 (by rfl) ?_ ?_
  rotate_left
  · (intro wq; go_simp; try with_reducible rfl)
  simp only [pz]
  refine wpE_exec 5 rfl (by kernel_rfl) (by rfl) ?_
  intro K hK
  go_simp
  refine (within_any o.ver 3 w3.drew (by omega) (by omega) hok.ver).mono ?_
  rintro e w5 ⟨rfl, rfl⟩
  skip
  refine hK _ _ (fun z => Ext no w3 z) (.inr (fun z h => h)) hS0 ?_
  clear hK K
  refine wpE_take 6 (v := .int .i64 (1 + o.ver % 3)) rfl (by kernel_rfl) (by kernel_rfl) (by kernel_rfl) (fun _ _ _ h => h) hS0 (by rfl) (by intro wq; go_simp; rw [IntKind.wrap_i64]; omega) ?_
  simp only [pz]
  refine wpE_exec 9 rfl (by kernel_rfl) (by rfl) ?_
  intro K hK
  go_simp
  refine (within_any o.kind 5 w3.drew (by omega) (by omega) hok.kind).mono ?_
  rintro e w5 ⟨rfl, rfl⟩
  skip
  refine hK _ _ (fun z => Ext no w3 z) (.inr (fun z h => h)) hS0 ?_
  clear hK K
  refine wpE_take 10 (v := .int .i64 (1 + o.kind % 5)) rfl (by kernel_rfl) (by kernel_rfl) (by kernel_rfl) (fun _ _ _ h => h) hS0 (by rfl) (by intro wq; go_simp; rw [IntKind.wrap_i64]; omega) ?_
  simp only [pz]
  refine wpE_exec 13 rfl (by kernel_rfl) (by rfl) ?_
  intro K hK
  go_simp
  refine (within_any o.time 50 w3.drew (by omega) (by omega) hok.time).mono ?_
  rintro e w5 ⟨rfl, rfl⟩
  skip
  refine hK _ _ (fun z => Ext no w3 z) (.inr (fun z h => h)) hS0 ?_
  clear hK K
  refine wpE_exec 15 rfl (by kernel_rfl) (by rfl) ?_
  intro K hK
  go_simp
  have hS9 := trivial
  refine hK _ _ (fun x => True) (.inl (by kernel_rfl)) hS9 ?_
  clear hK K
  refine wpE_take 16 (v := ?_) rfl (by kernel_rfl) (by kernel_rfl) (by kernel_rfl) (fun _ _ _ h => h) hS9 (by rfl) ?_ ?_
  rotate_left
  · (intro wq; go_simp; try with_reducible rfl)
  simp only [pz]
  refine wpE_exec 17 rfl (by kernel_rfl) (by rfl) ?_
  intro K hK
  go_simp
  have hS9 := trivial
  refine hK _ _ (fun x => True) (.inl (by kernel_rfl)) hS9 ?_
  clear hK K
  refine wpE_take 18 (v := ?_) rfl (by kernel_rfl) (by kernel_rfl) (by kernel_rfl) (fun _ _ _ h => h) hS9 (by rfl) ?_ ?_
  rotate_left
  · (intro wq; go_simp; try with_reducible rfl)
  simp only [pz]
  refine wpE_exec 19 rfl (by kernel_rfl) (by rfl) ?_
  intro K hK
  go_simp
  have hS9 := trivial
  refine hK _ _ (fun x => True) (.inl (by kernel_rfl)) hS9 ?_
  clear hK K
  refine wpE_take 20 (v := ?_) rfl (by kernel_rfl) (by kernel_rfl) (by kernel_rfl) (fun _ _ _ h => h) hS9 (by rfl) ?_ ?_
  rotate_left
  · (intro wq; go_simp; try with_reducible rfl)
  simp only [pz]
  refine wpE_exec 21 rfl (by kernel_rfl) (by rfl) ?_
  intro K hK
  go_simp
  have hS9 := trivial
  refine hK _ _ (fun x => True) (.inl (by kernel_rfl)) hS9 ?_
  clear hK K
  refine wpE_done (by kernel_rfl) ?_ _
  go_upto_region 3 with fail
  have hbw4 : Blk ((((w3.setCell ⟨g, 3, none⟩ (.int .i64 (o.coll % 3))).setCell ⟨g, 4, none⟩ (.int .i64 (1 + o.ver % 3))).setCell ⟨g, 5, none⟩ (.int .i64 (1 + o.kind % 5))).setCell ⟨g, 9, none⟩ (.int .i64 (o.time % 50))).drew g [.int .i64 (o.dot.dev % 6), .int .i64 (1 + o.dot.ep % 3), .int .i64 (1 + o.dot.seq % 30), .int .i64 (o.coll % 3), .int .i64 (1 + o.ver % 3), .int .i64 (1 + o.kind % 5), .string (str o.key), .string (str o.text), .int .i64 o.n, .int .i64 (o.time % 50), .slice a o.dots.length c] := ((((hbw3.set 3 (.int .i64 (o.coll % 3)) (by simp [OpR.cells])).set 4 (.int .i64 (1 + o.ver % 3)) (by simp [OpR.cells])).set 5 (.int .i64 (1 + o.kind % 5)) (by simp [OpR.cells])).set 9 (.int .i64 (o.time % 50)) (by simp [OpR.cells])).drew
  have hzw4 := ((((hzw3.other (g := g) (by omega) 3 (.int .i64 (o.coll % 3))).other (g := g) (by omega) 4 (.int .i64 (1 + o.ver % 3))).other (g := g) (by omega) 5 (.int .i64 (1 + o.kind % 5))).other (g := g) (by omega) 9 (.int .i64 (o.time % 50))).drew
  have hxw4 := (((((hxw3.set1 hgw 3 (.int .i64 (o.coll % 3))).set1 hgw 4 (.int .i64 (1 + o.ver % 3))).set1 hgw 5 (.int .i64 (1 + o.kind % 5))).set1 hgw 9 (.int .i64 (o.time % 50))).comp (Ext.drew no _))
  clear hbw3 hzw3 hxw3
  generalize ((((w3.setCell ⟨g, 3, none⟩ (.int .i64 (o.coll % 3))).setCell ⟨g, 4, none⟩ (.int .i64 (1 + o.ver % 3))).setCell ⟨g, 5, none⟩ (.int .i64 (1 + o.kind % 5))).setCell ⟨g, 9, none⟩ (.int .i64 (o.time % 50))).drew = w4 at *
  clear e3 e4 e5 e9 h3 h4 h5 h9 hS0 hS9
  --<C
  have e6 := hbw4.cell 6 _ rfl
  have e7 := hbw4.cell 7 _ rfl
  have h6 := hbw4.fr 6
  have h7 := hbw4.fr 7
  have hk64 : I64ok ((str o.key).size : Int) := by have := hok.key; unfold maxLen at this; unfold I64ok; rw [str_size]; omega
  have ht64 : I64ok ((str o.text).size : Int) := by have := hok.text; unfold maxLen at this; unfold I64ok; rw [str_size]; omega
  obtain ⟨r3, hr3⟩ : ∃ r : Nat, r = o.key.length % 3 := ⟨_, rfl⟩
  obtain ⟨r4, hr4⟩ : ∃ r : Nat, r = o.text.length % 4 := ⟨_, rfl⟩
  have HK3 := Lib.hid (show ((str o.key).size : Int) % 3 = (r3 : Int) by rw [str_size]; omega)
  have HT4 := Lib.hid (show ((str o.text).size : Int) % 4 = (r4 : Int) by rw [str_size]; omega)
  have HKA := Lib.hid (goodKey_at o.key r3 hr3)
  have HTA := Lib.hid (goodText_at o.text r4 hr4)
  have hr3' : r3 < 3 := by omega
  have hr4' : r4 < 4 := by omega
  clear hr3 hr4
  have hg4 : g < w4.heap.size := hbw4.lt (by simp)
  go_cut [42] (fun s42 wx => Blk wx g [.int .i64 (o.dot.dev % 6), .int .i64 (1 + o.dot.ep % 3), .int .i64 (1 + o.dot.seq % 30), .int .i64 (o.coll % 3), .int .i64 (1 + o.ver % 3), .int .i64 (1 + o.kind % 5), .string (str (goodKey o.key)), .string (str (goodText o.text)), .int .i64 o.n, .int .i64 (o.time % 50), .slice a o.dots.length c] ∧ Blk wx (g + 1) [.int .i64 0, .int .i64 0, .int .i64 0, .int .i64 0, .int .i64 0, .int .i64 0, .string { data := #[] }, .string { data := #[] }, .int .i64 0, .int .i64 0, .slice none 0 0] ∧ Ext no w wx)
  case first =>
    refine wp_region_F [2, 6, 9, 13] (looks [(2, fun z => Ext no w4 z), (6, fun z => True), (9, fun z => Ext no w4 z), (13, fun z => True)]) (by kernel_rfl) ?_
    have hT0 : ∀ k, looks [(2, fun z => Ext no w4 z), (6, fun z => True), (9, fun z => Ext no w4 z), (13, fun z => True)] k (w4.drew) := looks_all ⟨((Ext.refl no w4).comp (Ext.drew no _)), trivial, ((Ext.refl no w4).comp (Ext.drew no _)), trivial, trivial⟩
    refine wpF_take 1 (v := ?_) rfl (by kernel_rfl) (by kernel_rfl) (by kernel_rfl) (fun _ _ _ h => h) hT0 (by rfl) ?_ ?_
    rotate_left
    · (intro wq; go_simp; try with_reducible rfl)
    simp only [pz]
    refine wpF_look 2 (v := .string (str o.key)) rfl rfl (by kernel_rfl) (by kernel_rfl) (by kernel_rfl) (by kernel_rfl) (fun _ _ _ h => h) hT0 (by rfl) (fun w hS => by have hS : Ext no w4 w := hS; have q := hS.keeps e6 (fun h => h); go_simp) ?_
    simp only [pz]
    refine wpF_take 3 (v := ?_) rfl (by kernel_rfl) (by kernel_rfl) (by kernel_rfl) (fun _ _ _ h => h) hT0 (by rfl) ?_ ?_
    rotate_left
    · (intro wq; go_simp; try with_reducible rfl)
    simp only [pz]
    refine wpF_call 4 (v := .int .i64 (r3 : Int)) 36 #[.int .i64 ((str o.key).size : Int), .int .i64 3] rfl (by kernel_rfl) (by kernel_rfl) (by kernel_rfl) (fun _ _ _ h => h) hT0 (by rfl) (by intro wq; go_simp; try with_reducible rfl) (fun wq => by have hq := within_any ((str o.key).size : Int) 3 wq (by omega) (by omega) hk64; rw [HK3.out] at hq; exact hq) ?_
    simp only [pz]
    refine wpF_take 8 (v := ?_) rfl (by kernel_rfl) (by kernel_rfl) (by kernel_rfl) (fun _ _ _ h => h) hT0 (by rfl) ?_ ?_
    rotate_left
    · (intro wq; go_simp; try with_reducible rfl)
    simp only [pz]
    refine wpF_look 9 (v := .string (str o.text)) rfl rfl (by kernel_rfl) (by kernel_rfl) (by kernel_rfl) (by kernel_rfl) (fun _ _ _ h => h) hT0 (by rfl) (fun w hS => by have hS : Ext no w4 w := hS; have q := hS.keeps e7 (fun h => h); go_simp) ?_
    simp only [pz]
    refine wpF_take 10 (v := ?_) rfl (by kernel_rfl) (by kernel_rfl) (by kernel_rfl) (fun _ _ _ h => h) hT0 (by rfl) ?_ ?_
    rotate_left
    · (intro wq; go_simp; try with_reducible rfl)
    simp only [pz]
    refine wpF_call 11 (v := .int .i64 (r4 : Int)) 36 #[.int .i64 ((str o.text).size : Int), .int .i64 4] rfl (by kernel_rfl) (by kernel_rfl) (by kernel_rfl) (fun _ _ _ h => h) hT0 (by rfl) (by intro wq; go_simp; try with_reducible rfl) (fun wq => by have hq := within_any ((str o.text).size : Int) 4 wq (by omega) (by omega) ht64; rw [HT4.out] at hq; exact hq) ?_
    simp only [pz]
    refine wpF_execs [0, 7] (by kernel_rfl) (by simp) ?_
    intro j hj
    simp only [List.mem_cons, List.not_mem_nil, or_false] at hj
    rcases hj with rfl | rfl
    · refine ⟨_, rfl, by rfl, ?_⟩
      intro K hK
      go_simp
      have hT1 : ∀ k, looks [(2, fun z => Ext no w4 z), (6, fun z => Rd z (some ⟨w4.heap.size, 0, none⟩) [.string { data := #[97] }, .string { data := #[98] }, .string { data := #[120] }]), (9, fun z => Ext no w4 z), (13, fun z => True)] k ((w4.alloc (.cells #[.string { data := #[97] }, .string { data := #[98] }, .string { data := #[120] }] 9)).drew) := looks_all ⟨(((Ext.refl no w4).comp (Ext.alloc no _ (.cells #[.string { data := #[97] }, .string { data := #[98] }, .string { data := #[120] }] 9))).comp (Ext.drew no _)), (Rd.drew (Rd.at w4 #[.string { data := #[97] }, .string { data := #[98] }, .string { data := #[120] }] 9 (w4.heap.size) (by simp))), (((Ext.refl no w4).comp (Ext.alloc no _ (.cells #[.string { data := #[97] }, .string { data := #[98] }, .string { data := #[120] }] 9))).comp (Ext.drew no _)), trivial, trivial⟩
      refine hK _ _ (looks [(2, fun z => Ext no w4 z), (6, fun z => Rd z (some ⟨w4.heap.size, 0, none⟩) [.string { data := #[97] }, .string { data := #[98] }, .string { data := #[120] }]), (9, fun z => Ext no w4 z), (13, fun z => True)]) ⟨.inr (.inr (fun x h => h)), .inl (by kernel_rfl), .inr (.inr (fun x h => h)), .inl (by kernel_rfl), trivial⟩ hT1 ?_
      clear hK K
      try simp only [pz]
      refine wpF_take 5 (v := .pointer (some ⟨w4.heap.size, r3, none⟩)) rfl (by kernel_rfl) (by kernel_rfl) (by kernel_rfl) (fun _ _ _ h => h) hT1 (by rfl) (by intro wq; go_simp; intro hh; omega) ?_
      simp only [pz]
      refine wpF_look 6 (v := .string (str (goodKey o.key))) rfl rfl (by kernel_rfl) (by kernel_rfl) (by kernel_rfl) (by kernel_rfl) (fun _ _ _ h => h) hT1 (by rfl) (fun w hS => by have hS : Rd w (some ⟨w4.heap.size, 0, none⟩) [.string { data := #[97] }, .string { data := #[98] }, .string { data := #[120] }] := hS; have q := rd_at hS HKA.out; go_simp) ?_
      simp only [pz]
      refine wpF_take 14 (v := ?_) rfl (by kernel_rfl) (by kernel_rfl) (by kernel_rfl) (fun _ _ _ h => h) hT1 (by rfl) ?_ ?_
      rotate_left
      · (intro wq; go_simp; try with_reducible rfl)
      simp only [pz]
      refine wpF_execs [7, 15] (by kernel_rfl) (by simp) ?_
      intro j hj
      simp only [List.mem_cons, List.not_mem_nil, or_false] at hj
      rcases hj with rfl | rfl
      · refine ⟨_, rfl, by rfl, ?_⟩
        intro K hK
        go_simp
        have hT2 : ∀ k, looks [(2, fun z => Ext no w4 z), (6, fun z => Rd z (some ⟨w4.heap.size, 0, none⟩) [.string { data := #[97] }, .string { data := #[98] }, .string { data := #[120] }]), (9, fun z => Ext no w4 z), (13, fun z => Rd z (some ⟨w4.heap.size + 1, 0, none⟩) [.string { data := #[] }, .string { data := #[116] }, .string { data := #[85, 32] }, .string { data := #[32, 118] }])] k (((w4.alloc (.cells #[.string { data := #[97] }, .string { data := #[98] }, .string { data := #[120] }] 9)).alloc (.cells #[.string { data := #[] }, .string { data := #[116] }, .string { data := #[85, 32] }, .string { data := #[32, 118] }] 9)).drew) := looks_all ⟨((((Ext.refl no w4).comp (Ext.alloc no _ (.cells #[.string { data := #[97] }, .string { data := #[98] }, .string { data := #[120] }] 9))).comp (Ext.alloc no _ (.cells #[.string { data := #[] }, .string { data := #[116] }, .string { data := #[85, 32] }, .string { data := #[32, 118] }] 9))).comp (Ext.drew no _)), (Rd.drew (Rd.alloc (Rd.at w4 #[.string { data := #[97] }, .string { data := #[98] }, .string { data := #[120] }] 9 (w4.heap.size) (by simp)) (.cells #[.string { data := #[] }, .string { data := #[116] }, .string { data := #[85, 32] }, .string { data := #[32, 118] }] 9))), ((((Ext.refl no w4).comp (Ext.alloc no _ (.cells #[.string { data := #[97] }, .string { data := #[98] }, .string { data := #[120] }] 9))).comp (Ext.alloc no _ (.cells #[.string { data := #[] }, .string { data := #[116] }, .string { data := #[85, 32] }, .string { data := #[32, 118] }] 9))).comp (Ext.drew no _)), (Rd.drew (Rd.at (w4.alloc (.cells #[.string { data := #[97] }, .string { data := #[98] }, .string { data := #[120] }] 9)) #[.string { data := #[] }, .string { data := #[116] }, .string { data := #[85, 32] }, .string { data := #[32, 118] }] 9 (w4.heap.size + 1) (by simp))), trivial⟩
        refine hK _ _ (looks [(2, fun z => Ext no w4 z), (6, fun z => Rd z (some ⟨w4.heap.size, 0, none⟩) [.string { data := #[97] }, .string { data := #[98] }, .string { data := #[120] }]), (9, fun z => Ext no w4 z), (13, fun z => Rd z (some ⟨w4.heap.size + 1, 0, none⟩) [.string { data := #[] }, .string { data := #[116] }, .string { data := #[85, 32] }, .string { data := #[32, 118] }])]) ⟨.inr (.inr (fun x h => h)), .inr (.inr (fun x h => h)), .inr (.inr (fun x h => h)), .inl (by kernel_rfl), trivial⟩ hT2 ?_
        clear hK K
        try simp only [pz]
        refine wpF_take 12 (v := .pointer (some ⟨w4.heap.size + 1, r4, none⟩)) rfl (by kernel_rfl) (by kernel_rfl) (by kernel_rfl) (fun _ _ _ h => h) hT2 (by rfl) (by intro wq; go_simp; intro hh; omega) ?_
        simp only [pz]
        refine wpF_look 13 (v := .string (str (goodText o.text))) rfl rfl (by kernel_rfl) (by kernel_rfl) (by kernel_rfl) (by kernel_rfl) (fun _ _ _ h => h) hT2 (by rfl) (fun w hS => by have hS : Rd w (some ⟨w4.heap.size + 1, 0, none⟩) [.string { data := #[] }, .string { data := #[116] }, .string { data := #[85, 32] }, .string { data := #[32, 118] }] := hS; have q := rd_at hS HTA.out; go_simp) ?_
        simp only [pz]
        refine wpF_exec 15 rfl (by kernel_rfl) (by rfl) ?_
        intro K hK
        have q6 : (((w4.alloc (.cells #[.string { data := #[97] }, .string { data := #[98] }, .string { data := #[120] }] 9)).alloc (.cells #[.string { data := #[] }, .string { data := #[116] }, .string { data := #[85, 32] }, .string { data := #[32, 118] }] 9))).cell? ⟨g, 6, none⟩ = some (.string (str o.key)) := (((hbw4.alloc (by simp) (.cells #[.string { data := #[97] }, .string { data := #[98] }, .string { data := #[120] }] 9)).alloc (by simp) (.cells #[.string { data := #[] }, .string { data := #[116] }, .string { data := #[85, 32] }, .string { data := #[32, 118] }] 9))).cell 6 _ rfl
        have z6 : (((w4.alloc (.cells #[.string { data := #[97] }, .string { data := #[98] }, .string { data := #[120] }] 9)).alloc (.cells #[.string { data := #[] }, .string { data := #[116] }, .string { data := #[85, 32] }, .string { data := #[32, 118] }] 9))).frozen? ⟨g, 6, none⟩ = false := (((hbw4.alloc (by simp) (.cells #[.string { data := #[97] }, .string { data := #[98] }, .string { data := #[120] }] 9)).alloc (by simp) (.cells #[.string { data := #[] }, .string { data := #[116] }, .string { data := #[85, 32] }, .string { data := #[32, 118] }] 9))).fr 6
        go_simp
        have hT3 : ∀ k, looks [(2, fun z => True), (6, fun z => Rd z (some ⟨w4.heap.size, 0, none⟩) [.string { data := #[97] }, .string { data := #[98] }, .string { data := #[120] }]), (9, fun z => True), (13, fun z => Rd z (some ⟨w4.heap.size + 1, 0, none⟩) [.string { data := #[] }, .string { data := #[116] }, .string { data := #[85, 32] }, .string { data := #[32, 118] }])] k ((((w4.setCell ⟨g, 6, none⟩ (.string (str (goodKey o.key)))).alloc (.cells #[.string { data := #[97] }, .string { data := #[98] }, .string { data := #[120] }] 9)).alloc (.cells #[.string { data := #[] }, .string { data := #[116] }, .string { data := #[85, 32] }, .string { data := #[32, 118] }] 9)).drew) := looks_all ⟨trivial, (Rd.drew (Rd.alloc (Rd.at (w4.setCell ⟨g, 6, none⟩ (.string (str (goodKey o.key)))) #[.string { data := #[97] }, .string { data := #[98] }, .string { data := #[120] }] 9 (w4.heap.size) (by simp)) (.cells #[.string { data := #[] }, .string { data := #[116] }, .string { data := #[85, 32] }, .string { data := #[32, 118] }] 9))), trivial, (Rd.drew (Rd.at ((w4.setCell ⟨g, 6, none⟩ (.string (str (goodKey o.key)))).alloc (.cells #[.string { data := #[97] }, .string { data := #[98] }, .string { data := #[120] }] 9)) #[.string { data := #[] }, .string { data := #[116] }, .string { data := #[85, 32] }, .string { data := #[32, 118] }] 9 (w4.heap.size + 1) (by simp))), trivial⟩
        refine hK _ _ (looks [(2, fun z => True), (6, fun z => Rd z (some ⟨w4.heap.size, 0, none⟩) [.string { data := #[97] }, .string { data := #[98] }, .string { data := #[120] }]), (9, fun z => True), (13, fun z => Rd z (some ⟨w4.heap.size + 1, 0, none⟩) [.string { data := #[] }, .string { data := #[116] }, .string { data := #[85, 32] }, .string { data := #[32, 118] }])]) ⟨.inr (.inl (by kernel_rfl)), .inr (.inl (by kernel_rfl)), .inr (.inl (by kernel_rfl)), .inr (.inr (fun x h => h)), trivial⟩ hT3 ?_
        clear hK K
        try simp only [pz]
        refine wpF_take 16 (v := ?_) rfl (by kernel_rfl) (by kernel_rfl) (by kernel_rfl) (fun _ _ _ h => h) hT3 (by rfl) ?_ ?_
        rotate_left
        · (intro wq; go_simp; try with_reducible rfl)
        simp only [pz]
        refine wpF_exec 17 rfl (by kernel_rfl) (by rfl) ?_
        intro K hK
        have q7 : ((((w4.setCell ⟨g, 6, none⟩ (.string (str (goodKey o.key)))).alloc (.cells #[.string { data := #[97] }, .string { data := #[98] }, .string { data := #[120] }] 9)).alloc (.cells #[.string { data := #[] }, .string { data := #[116] }, .string { data := #[85, 32] }, .string { data := #[32, 118] }] 9))).cell? ⟨g, 7, none⟩ = some (.string (str o.text)) := ((((hbw4.set 6 (.string (str (goodKey o.key))) (by simp)).alloc (by simp) (.cells #[.string { data := #[97] }, .string { data := #[98] }, .string { data := #[120] }] 9)).alloc (by simp) (.cells #[.string { data := #[] }, .string { data := #[116] }, .string { data := #[85, 32] }, .string { data := #[32, 118] }] 9))).cell 7 _ rfl
        have z7 : ((((w4.setCell ⟨g, 6, none⟩ (.string (str (goodKey o.key)))).alloc (.cells #[.string { data := #[97] }, .string { data := #[98] }, .string { data := #[120] }] 9)).alloc (.cells #[.string { data := #[] }, .string { data := #[116] }, .string { data := #[85, 32] }, .string { data := #[32, 118] }] 9))).frozen? ⟨g, 7, none⟩ = false := ((((hbw4.set 6 (.string (str (goodKey o.key))) (by simp)).alloc (by simp) (.cells #[.string { data := #[97] }, .string { data := #[98] }, .string { data := #[120] }] 9)).alloc (by simp) (.cells #[.string { data := #[] }, .string { data := #[116] }, .string { data := #[85, 32] }, .string { data := #[32, 118] }] 9))).fr 7
        go_simp
        have hT4 : ∀ k, looks [(2, fun z => True), (6, fun z => Rd z (some ⟨w4.heap.size, 0, none⟩) [.string { data := #[97] }, .string { data := #[98] }, .string { data := #[120] }]), (9, fun z => True), (13, fun z => Rd z (some ⟨w4.heap.size + 1, 0, none⟩) [.string { data := #[] }, .string { data := #[116] }, .string { data := #[85, 32] }, .string { data := #[32, 118] }])] k (((((w4.setCell ⟨g, 6, none⟩ (.string (str (goodKey o.key)))).setCell ⟨g, 7, none⟩ (.string (str (goodText o.text)))).alloc (.cells #[.string { data := #[97] }, .string { data := #[98] }, .string { data := #[120] }] 9)).alloc (.cells #[.string { data := #[] }, .string { data := #[116] }, .string { data := #[85, 32] }, .string { data := #[32, 118] }] 9)).drew) := looks_all ⟨trivial, (Rd.drew (Rd.alloc (Rd.at ((w4.setCell ⟨g, 6, none⟩ (.string (str (goodKey o.key)))).setCell ⟨g, 7, none⟩ (.string (str (goodText o.text)))) #[.string { data := #[97] }, .string { data := #[98] }, .string { data := #[120] }] 9 (w4.heap.size) (by simp)) (.cells #[.string { data := #[] }, .string { data := #[116] }, .string { data := #[85, 32] }, .string { data := #[32, 118] }] 9))), trivial, (Rd.drew (Rd.at (((w4.setCell ⟨g, 6, none⟩ (.string (str (goodKey o.key)))).setCell ⟨g, 7, none⟩ (.string (str (goodText o.text)))).alloc (.cells #[.string { data := #[97] }, .string { data := #[98] }, .string { data := #[120] }] 9)) #[.string { data := #[] }, .string { data := #[116] }, .string { data := #[85, 32] }, .string { data := #[32, 118] }] 9 (w4.heap.size + 1) (by simp))), trivial⟩
        refine hK _ _ (looks [(2, fun z => True), (6, fun z => Rd z (some ⟨w4.heap.size, 0, none⟩) [.string { data := #[97] }, .string { data := #[98] }, .string { data := #[120] }]), (9, fun z => True), (13, fun z => Rd z (some ⟨w4.heap.size + 1, 0, none⟩) [.string { data := #[] }, .string { data := #[116] }, .string { data := #[85, 32] }, .string { data := #[32, 118] }])]) ⟨.inr (.inl (by kernel_rfl)), .inr (.inl (by kernel_rfl)), .inr (.inl (by kernel_rfl)), .inr (.inl (by kernel_rfl)), trivial⟩ hT4 ?_
        clear hK K
        try simp only [pz]
        refine wpF_done (by kernel_rfl) ?_ _
        go_wp2_with fail
        go_meet
        exact ⟨((((hbw4.set 6 (.string (str (goodKey o.key))) (by simp)).set 7 (.string (str (goodText o.text))) (by simp)).alloc (by simp) (.cells #[.string { data := #[97] }, .string { data := #[98] }, .string { data := #[120] }] 9)).alloc (by simp) (.cells #[.string { data := #[] }, .string { data := #[116] }, .string { data := #[85, 32] }, .string { data := #[32, 118] }] 9)).drew, ((((hzw4.other (g := g) (by omega) 6 (.string (str (goodKey o.key)))).other (g := g) (by omega) 7 (.string (str (goodText o.text)))).alloc (by simp) (.cells #[.string { data := #[97] }, .string { data := #[98] }, .string { data := #[120] }] 9)).alloc (by simp) (.cells #[.string { data := #[] }, .string { data := #[116] }, .string { data := #[85, 32] }, .string { data := #[32, 118] }] 9)).drew, (((((hxw4.set1 hgw 6 (.string (str (goodKey o.key)))).set1 hgw 7 (.string (str (goodText o.text)))).comp (Ext.alloc no _ (.cells #[.string { data := #[97] }, .string { data := #[98] }, .string { data := #[120] }] 9))).comp (Ext.alloc no _ (.cells #[.string { data := #[] }, .string { data := #[116] }, .string { data := #[85, 32] }, .string { data := #[32, 118] }] 9))).comp (Ext.drew no _))⟩
      · refine ⟨_, rfl, by rfl, ?_⟩
        intro K hK
        have q6 : ((w4.alloc (.cells #[.string { data := #[97] }, .string { data := #[98] }, .string { data := #[120] }] 9))).cell? ⟨g, 6, none⟩ = some (.string (str o.key)) := ((hbw4.alloc (by simp) (.cells #[.string { data := #[97] }, .string { data := #[98] }, .string { data := #[120] }] 9))).cell 6 _ rfl
        have z6 : ((w4.alloc (.cells #[.string { data := #[97] }, .string { data := #[98] }, .string { data := #[120] }] 9))).frozen? ⟨g, 6, none⟩ = false := ((hbw4.alloc (by simp) (.cells #[.string { data := #[97] }, .string { data := #[98] }, .string { data := #[120] }] 9))).fr 6
        go_simp
        have hT2 : ∀ k, looks [(2, fun z => True), (6, fun z => Rd z (some ⟨w4.heap.size, 0, none⟩) [.string { data := #[97] }, .string { data := #[98] }, .string { data := #[120] }]), (9, fun z => True), (13, fun z => True)] k (((w4.setCell ⟨g, 6, none⟩ (.string (str (goodKey o.key)))).alloc (.cells #[.string { data := #[97] }, .string { data := #[98] }, .string { data := #[120] }] 9)).drew) := looks_all ⟨trivial, (Rd.drew (Rd.at (w4.setCell ⟨g, 6, none⟩ (.string (str (goodKey o.key)))) #[.string { data := #[97] }, .string { data := #[98] }, .string { data := #[120] }] 9 (w4.heap.size) (by simp))), trivial, trivial, trivial⟩
        refine hK _ _ (looks [(2, fun z => True), (6, fun z => Rd z (some ⟨w4.heap.size, 0, none⟩) [.string { data := #[97] }, .string { data := #[98] }, .string { data := #[120] }]), (9, fun z => True), (13, fun z => True)]) ⟨.inr (.inl (by kernel_rfl)), .inr (.inl (by kernel_rfl)), .inr (.inl (by kernel_rfl)), .inl (by kernel_rfl), trivial⟩ hT2 ?_
        clear hK K
        try simp only [pz]
        refine wpF_exec 7 rfl (by kernel_rfl) (by rfl) ?_
        intro K hK
        go_simp
        have hT3 : ∀ k, looks [(2, fun z => True), (6, fun z => Rd z (some ⟨w4.heap.size, 0, none⟩) [.string { data := #[97] }, .string { data := #[98] }, .string { data := #[120] }]), (9, fun z => True), (13, fun z => Rd z (some ⟨w4.heap.size + 1, 0, none⟩) [.string { data := #[] }, .string { data := #[116] }, .string { data := #[85, 32] }, .string { data := #[32, 118] }])] k ((((w4.setCell ⟨g, 6, none⟩ (.string (str (goodKey o.key)))).alloc (.cells #[.string { data := #[97] }, .string { data := #[98] }, .string { data := #[120] }] 9)).alloc (.cells #[.string { data := #[] }, .string { data := #[116] }, .string { data := #[85, 32] }, .string { data := #[32, 118] }] 9)).drew) := looks_all ⟨trivial, (Rd.drew (Rd.alloc (Rd.at (w4.setCell ⟨g, 6, none⟩ (.string (str (goodKey o.key)))) #[.string { data := #[97] }, .string { data := #[98] }, .string { data := #[120] }] 9 (w4.heap.size) (by simp)) (.cells #[.string { data := #[] }, .string { data := #[116] }, .string { data := #[85, 32] }, .string { data := #[32, 118] }] 9))), trivial, (Rd.drew (Rd.at ((w4.setCell ⟨g, 6, none⟩ (.string (str (goodKey o.key)))).alloc (.cells #[.string { data := #[97] }, .string { data := #[98] }, .string { data := #[120] }] 9)) #[.string { data := #[] }, .string { data := #[116] }, .string { data := #[85, 32] }, .string { data := #[32, 118] }] 9 (w4.heap.size + 1) (by simp))), trivial⟩
        refine hK _ _ (looks [(2, fun z => True), (6, fun z => Rd z (some ⟨w4.heap.size, 0, none⟩) [.string { data := #[97] }, .string { data := #[98] }, .string { data := #[120] }]), (9, fun z => True), (13, fun z => Rd z (some ⟨w4.heap.size + 1, 0, none⟩) [.string { data := #[] }, .string { data := #[116] }, .string { data := #[85, 32] }, .string { data := #[32, 118] }])]) ⟨.inr (.inr (fun x h => h)), .inr (.inr (fun x h => h)), .inr (.inr (fun x h => h)), .inl (by kernel_rfl), trivial⟩ hT3 ?_
        clear hK K
        try simp only [pz]
        refine wpF_take 12 (v := .pointer (some ⟨w4.heap.size + 1, r4, none⟩)) rfl (by kernel_rfl) (by kernel_rfl) (by kernel_rfl) (fun _ _ _ h => h) hT3 (by rfl) (by intro wq; go_simp; intro hh; omega) ?_
        simp only [pz]
        refine wpF_look 13 (v := .string (str (goodText o.text))) rfl rfl (by kernel_rfl) (by kernel_rfl) (by kernel_rfl) (by kernel_rfl) (fun _ _ _ h => h) hT3 (by rfl) (fun w hS => by have hS : Rd w (some ⟨w4.heap.size + 1, 0, none⟩) [.string { data := #[] }, .string { data := #[116] }, .string { data := #[85, 32] }, .string { data := #[32, 118] }] := hS; have q := rd_at hS HTA.out; go_simp) ?_
        simp only [pz]
        refine wpF_take 16 (v := ?_) rfl (by kernel_rfl) (by kernel_rfl) (by kernel_rfl) (fun _ _ _ h => h) hT3 (by rfl) ?_ ?_
        rotate_left
        · (intro wq; go_simp; try with_reducible rfl)
        simp only [pz]
        refine wpF_exec 17 rfl (by kernel_rfl) (by rfl) ?_
        intro K hK
        have q7 : ((((w4.setCell ⟨g, 6, none⟩ (.string (str (goodKey o.key)))).alloc (.cells #[.string { data := #[97] }, .string { data := #[98] }, .string { data := #[120] }] 9)).alloc (.cells #[.string { data := #[] }, .string { data := #[116] }, .string { data := #[85, 32] }, .string { data := #[32, 118] }] 9))).cell? ⟨g, 7, none⟩ = some (.string (str o.text)) := ((((hbw4.set 6 (.string (str (goodKey o.key))) (by simp)).alloc (by simp) (.cells #[.string { data := #[97] }, .string { data := #[98] }, .string { data := #[120] }] 9)).alloc (by simp) (.cells #[.string { data := #[] }, .string { data := #[116] }, .string { data := #[85, 32] }, .string { data := #[32, 118] }] 9))).cell 7 _ rfl
        have z7 : ((((w4.setCell ⟨g, 6, none⟩ (.string (str (goodKey o.key)))).alloc (.cells #[.string { data := #[97] }, .string { data := #[98] }, .string { data := #[120] }] 9)).alloc (.cells #[.string { data := #[] }, .string { data := #[116] }, .string { data := #[85, 32] }, .string { data := #[32, 118] }] 9))).frozen? ⟨g, 7, none⟩ = false := ((((hbw4.set 6 (.string (str (goodKey o.key))) (by simp)).alloc (by simp) (.cells #[.string { data := #[97] }, .string { data := #[98] }, .string { data := #[120] }] 9)).alloc (by simp) (.cells #[.string { data := #[] }, .string { data := #[116] }, .string { data := #[85, 32] }, .string { data := #[32, 118] }] 9))).fr 7
        go_simp
        have hT4 : ∀ k, looks [(2, fun z => True), (6, fun z => Rd z (some ⟨w4.heap.size, 0, none⟩) [.string { data := #[97] }, .string { data := #[98] }, .string { data := #[120] }]), (9, fun z => True), (13, fun z => Rd z (some ⟨w4.heap.size + 1, 0, none⟩) [.string { data := #[] }, .string { data := #[116] }, .string { data := #[85, 32] }, .string { data := #[32, 118] }])] k (((((w4.setCell ⟨g, 6, none⟩ (.string (str (goodKey o.key)))).setCell ⟨g, 7, none⟩ (.string (str (goodText o.text)))).alloc (.cells #[.string { data := #[97] }, .string { data := #[98] }, .string { data := #[120] }] 9)).alloc (.cells #[.string { data := #[] }, .string { data := #[116] }, .string { data := #[85, 32] }, .string { data := #[32, 118] }] 9)).drew) := looks_all ⟨trivial, (Rd.drew (Rd.alloc (Rd.at ((w4.setCell ⟨g, 6, none⟩ (.string (str (goodKey o.key)))).setCell ⟨g, 7, none⟩ (.string (str (goodText o.text)))) #[.string { data := #[97] }, .string { data := #[98] }, .string { data := #[120] }] 9 (w4.heap.size) (by simp)) (.cells #[.string { data := #[] }, .string { data := #[116] }, .string { data := #[85, 32] }, .string { data := #[32, 118] }] 9))), trivial, (Rd.drew (Rd.at (((w4.setCell ⟨g, 6, none⟩ (.string (str (goodKey o.key)))).setCell ⟨g, 7, none⟩ (.string (str (goodText o.text)))).alloc (.cells #[.string { data := #[97] }, .string { data := #[98] }, .string { data := #[120] }] 9)) #[.string { data := #[] }, .string { data := #[116] }, .string { data := #[85, 32] }, .string { data := #[32, 118] }] 9 (w4.heap.size + 1) (by simp))), trivial⟩
        refine hK _ _ (looks [(2, fun z => True), (6, fun z => Rd z (some ⟨w4.heap.size, 0, none⟩) [.string { data := #[97] }, .string { data := #[98] }, .string { data := #[120] }]), (9, fun z => True), (13, fun z => Rd z (some ⟨w4.heap.size + 1, 0, none⟩) [.string { data := #[] }, .string { data := #[116] }, .string { data := #[85, 32] }, .string { data := #[32, 118] }])]) ⟨.inr (.inl (by kernel_rfl)), .inr (.inl (by kernel_rfl)), .inr (.inl (by kernel_rfl)), .inr (.inl (by kernel_rfl)), trivial⟩ hT4 ?_
        clear hK K
        try simp only [pz]
        refine wpF_done (by kernel_rfl) ?_ _
        go_wp2_with fail
        go_meet
        exact ⟨((((hbw4.set 6 (.string (str (goodKey o.key))) (by simp)).set 7 (.string (str (goodText o.text))) (by simp)).alloc (by simp) (.cells #[.string { data := #[97] }, .string { data := #[98] }, .string { data := #[120] }] 9)).alloc (by simp) (.cells #[.string { data := #[] }, .string { data := #[116] }, .string { data := #[85, 32] }, .string { data := #[32, 118] }] 9)).drew, ((((hzw4.other (g := g) (by omega) 6 (.string (str (goodKey o.key)))).other (g := g) (by omega) 7 (.string (str (goodText o.text)))).alloc (by simp) (.cells #[.string { data := #[97] }, .string { data := #[98] }, .string { data := #[120] }] 9)).alloc (by simp) (.cells #[.string { data := #[] }, .string { data := #[116] }, .string { data := #[85, 32] }, .string { data := #[32, 118] }] 9)).drew, (((((hxw4.set1 hgw 6 (.string (str (goodKey o.key)))).set1 hgw 7 (.string (str (goodText o.text)))).comp (Ext.alloc no _ (.cells #[.string { data := #[97] }, .string { data := #[98] }, .string { data := #[120] }] 9))).comp (Ext.alloc no _ (.cells #[.string { data := #[] }, .string { data := #[116] }, .string { data := #[85, 32] }, .string { data := #[32, 118] }] 9))).comp (Ext.drew no _))⟩
    · refine ⟨_, rfl, by rfl, ?_⟩
      intro K hK
      go_simp
      have hT1 : ∀ k, looks [(2, fun z => Ext no w4 z), (6, fun z => True), (9, fun z => Ext no w4 z), (13, fun z => Rd z (some ⟨w4.heap.size, 0, none⟩) [.string { data := #[] }, .string { data := #[116] }, .string { data := #[85, 32] }, .string { data := #[32, 118] }])] k ((w4.alloc (.cells #[.string { data := #[] }, .string { data := #[116] }, .string { data := #[85, 32] }, .string { data := #[32, 118] }] 9)).drew) := looks_all ⟨(((Ext.refl no w4).comp (Ext.alloc no _ (.cells #[.string { data := #[] }, .string { data := #[116] }, .string { data := #[85, 32] }, .string { data := #[32, 118] }] 9))).comp (Ext.drew no _)), trivial, (((Ext.refl no w4).comp (Ext.alloc no _ (.cells #[.string { data := #[] }, .string { data := #[116] }, .string { data := #[85, 32] }, .string { data := #[32, 118] }] 9))).comp (Ext.drew no _)), (Rd.drew (Rd.at w4 #[.string { data := #[] }, .string { data := #[116] }, .string { data := #[85, 32] }, .string { data := #[32, 118] }] 9 (w4.heap.size) (by simp))), trivial⟩
      refine hK _ _ (looks [(2, fun z => Ext no w4 z), (6, fun z => True), (9, fun z => Ext no w4 z), (13, fun z => Rd z (some ⟨w4.heap.size, 0, none⟩) [.string { data := #[] }, .string { data := #[116] }, .string { data := #[85, 32] }, .string { data := #[32, 118] }])]) ⟨.inr (.inr (fun x h => h)), .inl (by kernel_rfl), .inr (.inr (fun x h => h)), .inl (by kernel_rfl), trivial⟩ hT1 ?_
      clear hK K
      try simp only [pz]
      refine wpF_take 12 (v := .pointer (some ⟨w4.heap.size, r4, none⟩)) rfl (by kernel_rfl) (by kernel_rfl) (by kernel_rfl) (fun _ _ _ h => h) hT1 (by rfl) (by intro wq; go_simp; intro hh; omega) ?_
      simp only [pz]
      refine wpF_look 13 (v := .string (str (goodText o.text))) rfl rfl (by kernel_rfl) (by kernel_rfl) (by kernel_rfl) (by kernel_rfl) (fun _ _ _ h => h) hT1 (by rfl) (fun w hS => by have hS : Rd w (some ⟨w4.heap.size, 0, none⟩) [.string { data := #[] }, .string { data := #[116] }, .string { data := #[85, 32] }, .string { data := #[32, 118] }] := hS; have q := rd_at hS HTA.out; go_simp) ?_
      simp only [pz]
      refine wpF_exec 0 rfl (by kernel_rfl) (by rfl) ?_
      intro K hK
      go_simp
      have hT2 : ∀ k, looks [(2, fun z => Ext no w4 z), (6, fun z => Rd z (some ⟨w4.heap.size + 1, 0, none⟩) [.string { data := #[97] }, .string { data := #[98] }, .string { data := #[120] }]), (9, fun z => Ext no w4 z), (13, fun z => Rd z (some ⟨w4.heap.size, 0, none⟩) [.string { data := #[] }, .string { data := #[116] }, .string { data := #[85, 32] }, .string { data := #[32, 118] }])] k (((w4.alloc (.cells #[.string { data := #[] }, .string { data := #[116] }, .string { data := #[85, 32] }, .string { data := #[32, 118] }] 9)).alloc (.cells #[.string { data := #[97] }, .string { data := #[98] }, .string { data := #[120] }] 9)).drew) := looks_all ⟨((((Ext.refl no w4).comp (Ext.alloc no _ (.cells #[.string { data := #[] }, .string { data := #[116] }, .string { data := #[85, 32] }, .string { data := #[32, 118] }] 9))).comp (Ext.alloc no _ (.cells #[.string { data := #[97] }, .string { data := #[98] }, .string { data := #[120] }] 9))).comp (Ext.drew no _)), (Rd.drew (Rd.at (w4.alloc (.cells #[.string { data := #[] }, .string { data := #[116] }, .string { data := #[85, 32] }, .string { data := #[32, 118] }] 9)) #[.string { data := #[97] }, .string { data := #[98] }, .string { data := #[120] }] 9 (w4.heap.size + 1) (by simp))), ((((Ext.refl no w4).comp (Ext.alloc no _ (.cells #[.string { data := #[] }, .string { data := #[116] }, .string { data := #[85, 32] }, .string { data := #[32, 118] }] 9))).comp (Ext.alloc no _ (.cells #[.string { data := #[97] }, .string { data := #[98] }, .string { data := #[120] }] 9))).comp (Ext.drew no _)), (Rd.drew (Rd.alloc (Rd.at w4 #[.string { data := #[] }, .string { data := #[116] }, .string { data := #[85, 32] }, .string { data := #[32, 118] }] 9 (w4.heap.size) (by simp)) (.cells #[.string { data := #[97] }, .string { data := #[98] }, .string { data := #[120] }] 9))), trivial⟩
      refine hK _ _ (looks [(2, fun z => Ext no w4 z), (6, fun z => Rd z (some ⟨w4.heap.size + 1, 0, none⟩) [.string { data := #[97] }, .string { data := #[98] }, .string { data := #[120] }]), (9, fun z => Ext no w4 z), (13, fun z => Rd z (some ⟨w4.heap.size, 0, none⟩) [.string { data := #[] }, .string { data := #[116] }, .string { data := #[85, 32] }, .string { data := #[32, 118] }])]) ⟨.inr (.inr (fun x h => h)), .inl (by kernel_rfl), .inr (.inr (fun x h => h)), .inr (.inr (fun x h => h)), trivial⟩ hT2 ?_
      clear hK K
      try simp only [pz]
      refine wpF_take 5 (v := .pointer (some ⟨w4.heap.size + 1, r3, none⟩)) rfl (by kernel_rfl) (by kernel_rfl) (by kernel_rfl) (fun _ _ _ h => h) hT2 (by rfl) (by intro wq; go_simp; intro hh; omega) ?_
      simp only [pz]
      refine wpF_look 6 (v := .string (str (goodKey o.key))) rfl rfl (by kernel_rfl) (by kernel_rfl) (by kernel_rfl) (by kernel_rfl) (fun _ _ _ h => h) hT2 (by rfl) (fun w hS => by have hS : Rd w (some ⟨w4.heap.size + 1, 0, none⟩) [.string { data := #[97] }, .string { data := #[98] }, .string { data := #[120] }] := hS; have q := rd_at hS HKA.out; go_simp) ?_
      simp only [pz]
      refine wpF_take 14 (v := ?_) rfl (by kernel_rfl) (by kernel_rfl) (by kernel_rfl) (fun _ _ _ h => h) hT2 (by rfl) ?_ ?_
      rotate_left
      · (intro wq; go_simp; try with_reducible rfl)
      simp only [pz]
      refine wpF_exec 15 rfl (by kernel_rfl) (by rfl) ?_
      intro K hK
      have q6 : (((w4.alloc (.cells #[.string { data := #[] }, .string { data := #[116] }, .string { data := #[85, 32] }, .string { data := #[32, 118] }] 9)).alloc (.cells #[.string { data := #[97] }, .string { data := #[98] }, .string { data := #[120] }] 9))).cell? ⟨g, 6, none⟩ = some (.string (str o.key)) := (((hbw4.alloc (by simp) (.cells #[.string { data := #[] }, .string { data := #[116] }, .string { data := #[85, 32] }, .string { data := #[32, 118] }] 9)).alloc (by simp) (.cells #[.string { data := #[97] }, .string { data := #[98] }, .string { data := #[120] }] 9))).cell 6 _ rfl
      have z6 : (((w4.alloc (.cells #[.string { data := #[] }, .string { data := #[116] }, .string { data := #[85, 32] }, .string { data := #[32, 118] }] 9)).alloc (.cells #[.string { data := #[97] }, .string { data := #[98] }, .string { data := #[120] }] 9))).frozen? ⟨g, 6, none⟩ = false := (((hbw4.alloc (by simp) (.cells #[.string { data := #[] }, .string { data := #[116] }, .string { data := #[85, 32] }, .string { data := #[32, 118] }] 9)).alloc (by simp) (.cells #[.string { data := #[97] }, .string { data := #[98] }, .string { data := #[120] }] 9))).fr 6
      go_simp
      have hT3 : ∀ k, looks [(2, fun z => True), (6, fun z => Rd z (some ⟨w4.heap.size + 1, 0, none⟩) [.string { data := #[97] }, .string { data := #[98] }, .string { data := #[120] }]), (9, fun z => True), (13, fun z => Rd z (some ⟨w4.heap.size, 0, none⟩) [.string { data := #[] }, .string { data := #[116] }, .string { data := #[85, 32] }, .string { data := #[32, 118] }])] k ((((w4.setCell ⟨g, 6, none⟩ (.string (str (goodKey o.key)))).alloc (.cells #[.string { data := #[] }, .string { data := #[116] }, .string { data := #[85, 32] }, .string { data := #[32, 118] }] 9)).alloc (.cells #[.string { data := #[97] }, .string { data := #[98] }, .string { data := #[120] }] 9)).drew) := looks_all ⟨trivial, (Rd.drew (Rd.at ((w4.setCell ⟨g, 6, none⟩ (.string (str (goodKey o.key)))).alloc (.cells #[.string { data := #[] }, .string { data := #[116] }, .string { data := #[85, 32] }, .string { data := #[32, 118] }] 9)) #[.string { data := #[97] }, .string { data := #[98] }, .string { data := #[120] }] 9 (w4.heap.size + 1) (by simp))), trivial, (Rd.drew (Rd.alloc (Rd.at (w4.setCell ⟨g, 6, none⟩ (.string (str (goodKey o.key)))) #[.string { data := #[] }, .string { data := #[116] }, .string { data := #[85, 32] }, .string { data := #[32, 118] }] 9 (w4.heap.size) (by simp)) (.cells #[.string { data := #[97] }, .string { data := #[98] }, .string { data := #[120] }] 9))), trivial⟩
      refine hK _ _ (looks [(2, fun z => True), (6, fun z => Rd z (some ⟨w4.heap.size + 1, 0, none⟩) [.string { data := #[97] }, .string { data := #[98] }, .string { data := #[120] }]), (9, fun z => True), (13, fun z => Rd z (some ⟨w4.heap.size, 0, none⟩) [.string { data := #[] }, .string { data := #[116] }, .string { data := #[85, 32] }, .string { data := #[32, 118] }])]) ⟨.inr (.inl (by kernel_rfl)), .inr (.inl (by kernel_rfl)), .inr (.inl (by kernel_rfl)), .inr (.inr (fun x h => h)), trivial⟩ hT3 ?_
      clear hK K
      try simp only [pz]
      refine wpF_take 16 (v := ?_) rfl (by kernel_rfl) (by kernel_rfl) (by kernel_rfl) (fun _ _ _ h => h) hT3 (by rfl) ?_ ?_
      rotate_left
      · (intro wq; go_simp; try with_reducible rfl)
      simp only [pz]
      refine wpF_exec 17 rfl (by kernel_rfl) (by rfl) ?_
      intro K hK
      have q7 : ((((w4.setCell ⟨g, 6, none⟩ (.string (str (goodKey o.key)))).alloc (.cells #[.string { data := #[] }, .string { data := #[116] }, .string { data := #[85, 32] }, .string { data := #[32, 118] }] 9)).alloc (.cells #[.string { data := #[97] }, .string { data := #[98] }, .string { data := #[120] }] 9))).cell? ⟨g, 7, none⟩ = some (.string (str o.text)) := ((((hbw4.set 6 (.string (str (goodKey o.key))) (by simp)).alloc (by simp) (.cells #[.string { data := #[] }, .string { data := #[116] }, .string { data := #[85, 32] }, .string { data := #[32, 118] }] 9)).alloc (by simp) (.cells #[.string { data := #[97] }, .string { data := #[98] }, .string { data := #[120] }] 9))).cell 7 _ rfl
      have z7 : ((((w4.setCell ⟨g, 6, none⟩ (.string (str (goodKey o.key)))).alloc (.cells #[.string { data := #[] }, .string { data := #[116] }, .string { data := #[85, 32] }, .string { data := #[32, 118] }] 9)).alloc (.cells #[.string { data := #[97] }, .string { data := #[98] }, .string { data := #[120] }] 9))).frozen? ⟨g, 7, none⟩ = false := ((((hbw4.set 6 (.string (str (goodKey o.key))) (by simp)).alloc (by simp) (.cells #[.string { data := #[] }, .string { data := #[116] }, .string { data := #[85, 32] }, .string { data := #[32, 118] }] 9)).alloc (by simp) (.cells #[.string { data := #[97] }, .string { data := #[98] }, .string { data := #[120] }] 9))).fr 7
      go_simp
      have hT4 : ∀ k, looks [(2, fun z => True), (6, fun z => Rd z (some ⟨w4.heap.size + 1, 0, none⟩) [.string { data := #[97] }, .string { data := #[98] }, .string { data := #[120] }]), (9, fun z => True), (13, fun z => Rd z (some ⟨w4.heap.size, 0, none⟩) [.string { data := #[] }, .string { data := #[116] }, .string { data := #[85, 32] }, .string { data := #[32, 118] }])] k (((((w4.setCell ⟨g, 6, none⟩ (.string (str (goodKey o.key)))).setCell ⟨g, 7, none⟩ (.string (str (goodText o.text)))).alloc (.cells #[.string { data := #[] }, .string { data := #[116] }, .string { data := #[85, 32] }, .string { data := #[32, 118] }] 9)).alloc (.cells #[.string { data := #[97] }, .string { data := #[98] }, .string { data := #[120] }] 9)).drew) := looks_all ⟨trivial, (Rd.drew (Rd.at (((w4.setCell ⟨g, 6, none⟩ (.string (str (goodKey o.key)))).setCell ⟨g, 7, none⟩ (.string (str (goodText o.text)))).alloc (.cells #[.string { data := #[] }, .string { data := #[116] }, .string { data := #[85, 32] }, .string { data := #[32, 118] }] 9)) #[.string { data := #[97] }, .string { data := #[98] }, .string { data := #[120] }] 9 (w4.heap.size + 1) (by simp))), trivial, (Rd.drew (Rd.alloc (Rd.at ((w4.setCell ⟨g, 6, none⟩ (.string (str (goodKey o.key)))).setCell ⟨g, 7, none⟩ (.string (str (goodText o.text)))) #[.string { data := #[] }, .string { data := #[116] }, .string { data := #[85, 32] }, .string { data := #[32, 118] }] 9 (w4.heap.size) (by simp)) (.cells #[.string { data := #[97] }, .string { data := #[98] }, .string { data := #[120] }] 9))), trivial⟩
      refine hK _ _ (looks [(2, fun z => True), (6, fun z => Rd z (some ⟨w4.heap.size + 1, 0, none⟩) [.string { data := #[97] }, .string { data := #[98] }, .string { data := #[120] }]), (9, fun z => True), (13, fun z => Rd z (some ⟨w4.heap.size, 0, none⟩) [.string { data := #[] }, .string { data := #[116] }, .string { data := #[85, 32] }, .string { data := #[32, 118] }])]) ⟨.inr (.inl (by kernel_rfl)), .inr (.inl (by kernel_rfl)), .inr (.inl (by kernel_rfl)), .inr (.inl (by kernel_rfl)), trivial⟩ hT4 ?_
      clear hK K
      try simp only [pz]
      refine wpF_done (by kernel_rfl) ?_ _
      go_wp2_with fail
      go_meet
      exact ⟨((((hbw4.set 6 (.string (str (goodKey o.key))) (by simp)).set 7 (.string (str (goodText o.text))) (by simp)).alloc (by simp) (.cells #[.string { data := #[] }, .string { data := #[116] }, .string { data := #[85, 32] }, .string { data := #[32, 118] }] 9)).alloc (by simp) (.cells #[.string { data := #[97] }, .string { data := #[98] }, .string { data := #[120] }] 9)).drew, ((((hzw4.other (g := g) (by omega) 6 (.string (str (goodKey o.key)))).other (g := g) (by omega) 7 (.string (str (goodText o.text)))).alloc (by simp) (.cells #[.string { data := #[] }, .string { data := #[116] }, .string { data := #[85, 32] }, .string { data := #[32, 118] }] 9)).alloc (by simp) (.cells #[.string { data := #[97] }, .string { data := #[98] }, .string { data := #[120] }] 9)).drew, (((((hxw4.set1 hgw 6 (.string (str (goodKey o.key)))).set1 hgw 7 (.string (str (goodText o.text)))).comp (Ext.alloc no _ (.cells #[.string { data := #[] }, .string { data := #[116] }, .string { data := #[85, 32] }, .string { data := #[32, 118] }] 9))).comp (Ext.alloc no _ (.cells #[.string { data := #[97] }, .string { data := #[98] }, .string { data := #[120] }] 9))).comp (Ext.drew no _))⟩
  case rest =>
    obtain ⟨hb5, hz5, hx5⟩ := hcut
    clear hbw4 hzw4 hxw4 e6 e7 h6 h7 HK3 HT4 HKA HTA hr3' hr4' hk64 ht64
    generalize wc = w5 at *
    --<D
    go_upto_block 0 with fail
    go_cut [3, 4, 5, 6, 7] (fun s3 s4 s5 s6 s7 wx => ∃ (a' : Option Addr) (c' : Nat), s3 = .slice a' (goodOp o).dots.length c' ∧ Own wx (g + 2) a' 3 (goodOp o).dots.length c' (ds (goodOp o).dots) ∧ Ext no w5 wx)
    case first =>
      go_wp2_with fail
      go_loopw [3, 4, 5, 6, 7] (fun s3 s4 s5 s6 s7 wr => ∃ (i : Nat) (a' : Option Addr) (c' : Nat), i ≤ o.dots.length ∧ i ≤ 8 ∧ (i = 0 ∨ 1 + o.kind % 5 = 3) ∧ s4 = .int .i64 i ∧ s3 = .slice a' (insN o.dots i).length c' ∧ Own wr (g + 2) a' 3 (insN o.dots i).length c' (ds (insN o.dots i)) ∧ Ext no w5 wr) (fun _ s4 _ _ _ _ => o.dots.length - (intOf s4).toNat)
      case atStart => exact ⟨0, none, 0, by omega, by omega, .inl rfl, rfl, rfl, Own.nil _ _ _, Ext.refl _ _⟩
      case round =>
        obtain ⟨i, a1, c1, hi, hi8, hik, rfl, rfl, hown, hxr⟩ := hrel
        have c10 := hxr.keeps (hb5.cell 10 _ rfl) (fun h => h)
        have c5 := hxr.keeps (hb5.cell 5 _ rfl) (fun h => h)
        by_cases hil : i < o.dots.length
        rotate_left
        · have d1 : decide (i < o.dots.length) = false := decF hil
          have HD := Lib.hid (good_dots_end o i (by rcases hik with h | h; exact .inr ⟨h, .inl (by omega)⟩; exact .inl ⟨h, .inl (by omega), hi8⟩))
          go_wp2_with fail
          go_meet
          rw [HD.out] at hown ⊢
          exact ⟨a1, c1, rfl, hown, hxr⟩
        have d1 : decide (i < o.dots.length) = true := decT hil
        by_cases hi88 : i < 8
        rotate_left
        · have d2 : decide ((i : Int) < 8) = false := decF (by omega)
          have HD := Lib.hid (good_dots_end o i (by rcases hik with h | h; exact absurd h (by omega); exact .inl ⟨h, .inr (by omega), hi8⟩))
          go_wp2_with fail
          go_meet
          rw [HD.out] at hown ⊢
          exact ⟨a1, c1, rfl, hown, hxr⟩
        have d2 : decide ((i : Int) < 8) = true := decT (by omega)
        by_cases h3 : 1 + o.kind % 5 = 3
        rotate_left
        · have d3 : ((1 + o.kind % 5) == (3 : Int)) = false := by rw [beq_eq_false_iff_ne]; exact h3
          have HD := Lib.hid (good_dots_end o i (by rcases hik with h | h; exact .inr ⟨h, .inr h3⟩; exact absurd h h3))
          clear h3 hik
          go_wp2_with fail
          go_meet
          rw [HD.out] at hown ⊢
          exact ⟨a1, c1, rfl, hown, hxr⟩
        have H3 := Lib.hid h3
        have d3 : ((1 + o.kind % 5) == (3 : Int)) = true := by rw [beq_iff_eq]; exact h3
        clear h3 hik
        have hr := hrw.ext (hx5.comp hxr) (fun _ _ h => h)
        obtain ⟨ab, ao, rfl, hlt⟩ := ds_shape hr (by omega)
        obtain ⟨x, hx_⟩ : ∃ x, o.dots[i]? = some x := ⟨_, List.getElem?_eq_getElem hil⟩
        have x0 := ds_cell hr hx_ 0 _ rfl
        have x1 := ds_cell hr hx_ 1 _ rfl
        have x2 := ds_cell hr hx_ 2 _ rfl
        rw [Nat.add_zero] at x0
        have hxok := hok.dots x (List.mem_of_getElem? hx_)
        have HI := Lib.hid (insN_succ o.dots i x hx_)
        go_upto_region 8 with fail
        go_cut [5] (fun s5 wx => s5 = .pointer (some ⟨wr.heap.size, 0, none⟩) ∧ wx = (wr.alloc (.cells #[.int .i64 (gd x).dev, .int .i64 (gd x).ep, .int .i64 (gd x).seq] 39)).drew)
        case first =>
          --<E
          refine wp_region_F [1, 5, 8, 12, 16, 20] (looks [(1, fun z => Ext no wr z), (5, fun z => Ext no wr z), (8, fun z => Ext no wr z), (12, fun z => Ext no wr z), (16, fun z => Ext no wr z), (20, fun z => Ext no wr z)]) (by kernel_rfl) ?_
          have hT0 : ∀ k, looks [(1, fun z => Ext no wr z), (5, fun z => Ext no wr z), (8, fun z => Ext no wr z), (12, fun z => Ext no wr z), (16, fun z => Ext no wr z), (20, fun z => Ext no wr z)] k (wr.drew) := looks_all ⟨(Ext.drew no wr), (Ext.drew no wr), (Ext.drew no wr), (Ext.drew no wr), (Ext.drew no wr), (Ext.drew no wr), trivial⟩
          refine wpF_take 0 (v := ?_) rfl (by kernel_rfl) (by kernel_rfl) (by kernel_rfl) (fun _ _ _ h => h) hT0 (by rfl) ?_ ?_
          rotate_left
          · (intro wq; go_simp; try with_reducible rfl)
          simp only [pz]
          refine wpF_look 1 (v := .slice (some ⟨ab, ao, none⟩) o.dots.length c) rfl rfl (by kernel_rfl) (by kernel_rfl) (by kernel_rfl) (by kernel_rfl) (fun _ _ _ h => h) hT0 (by rfl) (fun w hS => by have hS : Ext no wr w := hS; have q := hS.keeps c10 (fun h => h); go_simp) ?_
          simp only [pz]
          refine wpF_take 2 (v := ?_) rfl (by kernel_rfl) (by kernel_rfl) (by kernel_rfl) (fun _ _ _ h => h) hT0 (by rfl) ?_ ?_
          rotate_left
          · (intro wq; go_simp; try with_reducible rfl)
          simp only [pz]
          refine wpF_take 3 (v := .pointer (some ⟨ab, ao + i * 3, none⟩)) rfl (by kernel_rfl) (by kernel_rfl) (by kernel_rfl) (fun _ _ _ h => h) hT0 (by rfl) (by intro wq; go_simp) ?_
          simp only [pz]
          refine wpF_take 4 (v := ?_) rfl (by kernel_rfl) (by kernel_rfl) (by kernel_rfl) (fun _ _ _ h => h) hT0 (by rfl) ?_ ?_
          rotate_left
          · (intro wq; go_simp; try with_reducible rfl)
          simp only [pz]
          refine wpF_look 5 (v := .int .i64 x.dev) rfl rfl (by kernel_rfl) (by kernel_rfl) (by kernel_rfl) (by kernel_rfl) (fun _ _ _ h => h) hT0 (by rfl) (fun w hS => by have hS : Ext no wr w := hS; have q := hS.keeps x0 (fun h => h); go_simp) ?_
          simp only [pz]
          refine wpF_call 6 (v := .int .i64 (x.dev % 6)) 36 #[.int .i64 x.dev, .int .i64 6] rfl (by kernel_rfl) (by kernel_rfl) (by kernel_rfl) (fun _ _ _ h => h) hT0 (by rfl) (by intro wq; go_simp; try with_reducible rfl) (fun wq => within_any x.dev 6 wq (by omega) (by omega) hxok.1) ?_
          simp only [pz]
          refine wpF_take 7 (v := ?_) rfl (by kernel_rfl) (by kernel_rfl) (by kernel_rfl) (fun _ _ _ h => h) hT0 (by rfl) ?_ ?_
          rotate_left
          · (intro wq; go_simp; try with_reducible rfl)
          simp only [pz]
          refine wpF_look 8 (v := .slice (some ⟨ab, ao, none⟩) o.dots.length c) rfl rfl (by kernel_rfl) (by kernel_rfl) (by kernel_rfl) (by kernel_rfl) (fun _ _ _ h => h) hT0 (by rfl) (fun w hS => by have hS : Ext no wr w := hS; have q := hS.keeps c10 (fun h => h); go_simp) ?_
          simp only [pz]
          refine wpF_take 9 (v := ?_) rfl (by kernel_rfl) (by kernel_rfl) (by kernel_rfl) (fun _ _ _ h => h) hT0 (by rfl) ?_ ?_
          rotate_left
          · (intro wq; go_simp; try with_reducible rfl)
          simp only [pz]
          refine wpF_take 10 (v := .pointer (some ⟨ab, ao + i * 3, none⟩)) rfl (by kernel_rfl) (by kernel_rfl) (by kernel_rfl) (fun _ _ _ h => h) hT0 (by rfl) (by intro wq; go_simp) ?_
          simp only [pz]
          refine wpF_take 11 (v := ?_) rfl (by kernel_rfl) (by kernel_rfl) (by kernel_rfl) (fun _ _ _ h => h) hT0 (by rfl) ?_ ?_
          rotate_left
          · (intro wq; go_simp; try with_reducible rfl)
          simp only [pz]
          refine wpF_look 12 (v := .int .i64 x.ep) rfl rfl (by kernel_rfl) (by kernel_rfl) (by kernel_rfl) (by kernel_rfl) (fun _ _ _ h => h) hT0 (by rfl) (fun w hS => by have hS : Ext no wr w := hS; have q := hS.keeps x1 (fun h => h); go_simp) ?_
          simp only [pz]
          refine wpF_call 13 (v := .int .i64 (x.ep % 3)) 36 #[.int .i64 x.ep, .int .i64 3] rfl (by kernel_rfl) (by kernel_rfl) (by kernel_rfl) (fun _ _ _ h => h) hT0 (by rfl) (by intro wq; go_simp; try with_reducible rfl) (fun wq => within_any x.ep 3 wq (by omega) (by omega) hxok.2.1) ?_
          simp only [pz]
          refine wpF_take 14 (v := .int .i64 (1 + x.ep % 3)) rfl (by kernel_rfl) (by kernel_rfl) (by kernel_rfl) (fun _ _ _ h => h) hT0 (by rfl) (by intro wq; go_simp; rw [IntKind.wrap_i64]; omega) ?_
          simp only [pz]
          refine wpF_take 15 (v := ?_) rfl (by kernel_rfl) (by kernel_rfl) (by kernel_rfl) (fun _ _ _ h => h) hT0 (by rfl) ?_ ?_
          rotate_left
          · (intro wq; go_simp; try with_reducible rfl)
          simp only [pz]
          refine wpF_look 16 (v := .slice (some ⟨ab, ao, none⟩) o.dots.length c) rfl rfl (by kernel_rfl) (by kernel_rfl) (by kernel_rfl) (by kernel_rfl) (fun _ _ _ h => h) hT0 (by rfl) (fun w hS => by have hS : Ext no wr w := hS; have q := hS.keeps c10 (fun h => h); go_simp) ?_
          simp only [pz]
          refine wpF_take 17 (v := ?_) rfl (by kernel_rfl) (by kernel_rfl) (by kernel_rfl) (fun _ _ _ h => h) hT0 (by rfl) ?_ ?_
          rotate_left
          · (intro wq; go_simp; try with_reducible rfl)
          simp only [pz]
          refine wpF_take 18 (v := .pointer (some ⟨ab, ao + i * 3, none⟩)) rfl (by kernel_rfl) (by kernel_rfl) (by kernel_rfl) (fun _ _ _ h => h) hT0 (by rfl) (by intro wq; go_simp) ?_
          simp only [pz]
          refine wpF_take 19 (v := ?_) rfl (by kernel_rfl) (by kernel_rfl) (by kernel_rfl) (fun _ _ _ h => h) hT0 (by rfl) ?_ ?_
          rotate_left
          · (intro wq; go_simp; try with_reducible rfl)
          simp only [pz]
          refine wpF_look 20 (v := .int .i64 x.seq) rfl rfl (by kernel_rfl) (by kernel_rfl) (by kernel_rfl) (by kernel_rfl) (fun _ _ _ h => h) hT0 (by rfl) (fun w hS => by have hS : Ext no wr w := hS; have q := hS.keeps x2 (fun h => h); go_simp) ?_
          simp only [pz]
          refine wpF_call 21 (v := .int .i64 (x.seq % 12)) 36 #[.int .i64 x.seq, .int .i64 12] rfl (by kernel_rfl) (by kernel_rfl) (by kernel_rfl) (fun _ _ _ h => h) hT0 (by rfl) (by intro wq; go_simp; try with_reducible rfl) (fun wq => within_any x.seq 12 wq (by omega) (by omega) hxok.2.2) ?_
          simp only [pz]
          refine wpF_take 22 (v := .int .i64 (1 + x.seq % 12)) rfl (by kernel_rfl) (by kernel_rfl) (by kernel_rfl) (fun _ _ _ h => h) hT0 (by rfl) (by intro wq; go_simp; rw [IntKind.wrap_i64]; omega) ?_
          simp only [pz]
          refine wpF_take 23 (v := ?_) rfl (by kernel_rfl) (by kernel_rfl) (by kernel_rfl) (fun _ _ _ h => h) hT0 (by rfl) ?_ ?_
          rotate_left
          · (intro wq; go_simp; try with_reducible rfl)
          simp only [pz]
          refine wpF_exec 24 rfl (by kernel_rfl) (by rfl) ?_
          intro K hK
          go_simp
          have hT1 : ∀ k, looks [(1, fun z => Ext no wr z), (5, fun z => Ext no wr z), (8, fun z => Ext no wr z), (12, fun z => Ext no wr z), (16, fun z => Ext no wr z), (20, fun z => Ext no wr z)] k ((wr.alloc (.cells #[.int .i64 0, .int .i64 0, .int .i64 0] 39)).drew) := looks_all ⟨((Ext.alloc no wr (.cells #[.int .i64 0, .int .i64 0, .int .i64 0] 39)).comp (Ext.drew no _)), ((Ext.alloc no wr (.cells #[.int .i64 0, .int .i64 0, .int .i64 0] 39)).comp (Ext.drew no _)), ((Ext.alloc no wr (.cells #[.int .i64 0, .int .i64 0, .int .i64 0] 39)).comp (Ext.drew no _)), ((Ext.alloc no wr (.cells #[.int .i64 0, .int .i64 0, .int .i64 0] 39)).comp (Ext.drew no _)), ((Ext.alloc no wr (.cells #[.int .i64 0, .int .i64 0, .int .i64 0] 39)).comp (Ext.drew no _)), ((Ext.alloc no wr (.cells #[.int .i64 0, .int .i64 0, .int .i64 0] 39)).comp (Ext.drew no _)), trivial⟩
          refine hK _ _ (looks [(1, fun z => Ext no wr z), (5, fun z => Ext no wr z), (8, fun z => Ext no wr z), (12, fun z => Ext no wr z), (16, fun z => Ext no wr z), (20, fun z => Ext no wr z)]) ⟨.inr (.inr (fun x h => h)), .inr (.inr (fun x h => h)), .inr (.inr (fun x h => h)), .inr (.inr (fun x h => h)), .inr (.inr (fun x h => h)), .inr (.inr (fun x h => h)), trivial⟩ hT1 ?_
          clear hK K
          try simp only [pz]
          refine wpF_exec 25 rfl (by kernel_rfl) (by rfl) ?_
          intro K hK
          go_simp
          have hT2 : ∀ k, looks [(1, fun z => Ext no wr z), (5, fun z => Ext no wr z), (8, fun z => Ext no wr z), (12, fun z => Ext no wr z), (16, fun z => Ext no wr z), (20, fun z => Ext no wr z)] k ((wr.alloc (.cells #[.int .i64 (x.dev % 6), .int .i64 (1 + x.ep % 3), .int .i64 (1 + x.seq % 12)] 39)).drew) := looks_all ⟨((Ext.alloc no wr (.cells #[.int .i64 (x.dev % 6), .int .i64 (1 + x.ep % 3), .int .i64 (1 + x.seq % 12)] 39)).comp (Ext.drew no _)), ((Ext.alloc no wr (.cells #[.int .i64 (x.dev % 6), .int .i64 (1 + x.ep % 3), .int .i64 (1 + x.seq % 12)] 39)).comp (Ext.drew no _)), ((Ext.alloc no wr (.cells #[.int .i64 (x.dev % 6), .int .i64 (1 + x.ep % 3), .int .i64 (1 + x.seq % 12)] 39)).comp (Ext.drew no _)), ((Ext.alloc no wr (.cells #[.int .i64 (x.dev % 6), .int .i64 (1 + x.ep % 3), .int .i64 (1 + x.seq % 12)] 39)).comp (Ext.drew no _)), ((Ext.alloc no wr (.cells #[.int .i64 (x.dev % 6), .int .i64 (1 + x.ep % 3), .int .i64 (1 + x.seq % 12)] 39)).comp (Ext.drew no _)), ((Ext.alloc no wr (.cells #[.int .i64 (x.dev % 6), .int .i64 (1 + x.ep % 3), .int .i64 (1 + x.seq % 12)] 39)).comp (Ext.drew no _)), trivial⟩
          refine hK _ _ (looks [(1, fun z => Ext no wr z), (5, fun z => Ext no wr z), (8, fun z => Ext no wr z), (12, fun z => Ext no wr z), (16, fun z => Ext no wr z), (20, fun z => Ext no wr z)]) ⟨.inr (.inl (by kernel_rfl)), .inr (.inl (by kernel_rfl)), .inr (.inl (by kernel_rfl)), .inr (.inl (by kernel_rfl)), .inr (.inl (by kernel_rfl)), .inr (.inl (by kernel_rfl)), trivial⟩ hT2 ?_
          clear hK K
          try simp only [pz]
          refine wpF_done (by kernel_rfl) ?_ _
          go_wp2_with fail
          go_meet
          exact ⟨rfl, rfl⟩
          -->E
        case rest =>
          obtain ⟨e5, hwc⟩ := hcut
          subst e5
          have hdb : Blk wc wr.heap.size [.int .i64 (gd x).dev, .int .i64 (gd x).ep, .int .i64 (gd x).seq] := by rw [hwc]; exact (Blk.lit wr _ _).drew
          have hxc : Ext no wr wc := by rw [hwc]; exact (Ext.alloc no wr _).comp (Ext.drew no _)
          clear hwc
          have hown2 := hown.ext hxc (fun _ _ h => h)
          have hxr2 := hxr.comp hxc
          have hgr : g + 2 ≤ wr.heap.size := by have := hz5.lt (by simp); have := hxr.size; omega
          generalize gd x = d at *
          obtain ⟨L, hLL⟩ : ∃ L, L = insN o.dots i := ⟨_, rfl⟩
          have HL8 := Lib.hid hLL
          rw [← hLL] at HI hown2 ⊢
          clear hLL
          clear hr x0 x1 x2 hxok hown hxr c10 c5 hxc
          generalize wr.heap.size = db at *
          generalize wc = w6 at *
          --<F
          go_wp2_with fail
          go_loopw [6] (fun s6 wr2 => ∃ k : Nat, k ≤ L.length ∧ s6 = .int .i64 k ∧ (∀ (j : Nat) (b : DotR), j < k → L[j]? = some b → b.lt d = true) ∧ Ext no w6 wr2) (fun s6 _ => L.length - (intOf s6).toNat)
          case atStart => exact ⟨0, by omega, rfl, fun j b h => absurd h (by omega), Ext.refl _ _⟩
          case round =>
            obtain ⟨k, hkL, rfl, hlo, hx7⟩ := hrel
            have hd7 := hdb.ext (by simp) hx7 (fun h => h)
            have hL7 := hown2.ext hx7 (fun _ _ h => h)
            have hL8 : L.length ≤ 8 := by rw [HL8.out]; exact Nat.le_trans (insN_len _ _) (by omega)
            have y0 := hd7.cell 0 _ rfl
            have y1 := hd7.cell 1 _ rfl
            have y2 := hd7.cell 2 _ rfl
            by_cases hkl : k < L.length
            · have e1 : decide (k < L.length) = true := decT hkl
              obtain ⟨bb, bo, rfl, hbl⟩ := ds_shape hL7.rd (by omega)
              obtain ⟨q, hq⟩ : ∃ q, L[k]? = some q := ⟨_, List.getElem?_eq_getElem hkl⟩
              have x0 := ds_cell hL7.rd hq 0 _ rfl
              have x1 := ds_cell hL7.rd hq 1 _ rfl
              have x2 := ds_cell hL7.rd hq 2 _ rfl
              rw [Nat.add_zero] at x0
              cases hlt3 : q.lt d with
              | true =>
                have Hlt := Lib.hid hlt3
                go_upto_region 10 with fail
                --<G
                refine wp_region_F [8, 9] (looks [(8, fun z => Ext no wr z), (9, fun z => Ext no wr z)]) (by kernel_rfl) ?_
                have hT0 : ∀ k, looks [(8, fun z => Ext no wr z), (9, fun z => Ext no wr z)] k (wr.drew) := looks_all ⟨(Ext.drew no wr), (Ext.drew no wr), trivial⟩
                refine wpF_take 0 (v := ?_) rfl (by kernel_rfl) (by kernel_rfl) (by kernel_rfl) (fun _ _ _ h => h) hT0 (by rfl) ?_ ?_
                rotate_left
                · (intro wq; go_simp; try with_reducible rfl)
                simp only [pz]
                refine wpF_take 1 (v := ?_) rfl (by kernel_rfl) (by kernel_rfl) (by kernel_rfl) (fun _ _ _ h => h) hT0 (by rfl) ?_ ?_
                rotate_left
                · (intro wq; go_simp; try with_reducible rfl)
                simp only [pz]
                refine wpF_take 2 (v := ?_) rfl (by kernel_rfl) (by kernel_rfl) (by kernel_rfl) (fun _ _ _ h => h) hT0 (by rfl) ?_ ?_
                rotate_left
                · (intro wq; go_simp; try with_reducible rfl)
                simp only [pz]
                refine wpF_take 3 (v := .bool true) rfl (by kernel_rfl) (by kernel_rfl) (by kernel_rfl) (fun _ _ _ h => h) hT0 (by rfl) (by intro wq; go_simp) ?_
                simp only [pz]
                refine wpF_take 4 (v := ?_) rfl (by kernel_rfl) (by kernel_rfl) (by kernel_rfl) (fun _ _ _ h => h) hT0 (by rfl) ?_ ?_
                rotate_left
                · (intro wq; go_simp; try with_reducible rfl)
                simp only [pz]
                refine wpF_take 5 (v := ?_) rfl (by kernel_rfl) (by kernel_rfl) (by kernel_rfl) (fun _ _ _ h => h) hT0 (by rfl) ?_ ?_
                rotate_left
                · (intro wq; go_simp; try with_reducible rfl)
                simp only [pz]
                refine wpF_take 6 (v := ?_) rfl (by kernel_rfl) (by kernel_rfl) (by kernel_rfl) (fun _ _ _ h => h) hT0 (by rfl) ?_ ?_
                rotate_left
                · (intro wq; go_simp; try with_reducible rfl)
                simp only [pz]
                refine wpF_take 7 (v := .pointer (some ⟨bb, bo + k * 3, none⟩)) rfl (by kernel_rfl) (by kernel_rfl) (by kernel_rfl) (fun _ _ _ h => h) hT0 (by rfl) (by intro wq; go_simp) ?_
                simp only [pz]
                refine wpF_look 8 (v := .agg #[.int .i64 q.dev, .int .i64 q.ep, .int .i64 q.seq]) rfl rfl (by kernel_rfl) (by kernel_rfl) (by kernel_rfl) (by kernel_rfl) (fun _ _ _ h => h) hT0 (by rfl) (fun w hS => by have hS : Ext no wr w := hS; have q0 := hS.keeps x0 (fun h => h); have q1 := hS.keeps x1 (fun h => h); have q2 := hS.keeps x2 (fun h => h); go_simp) ?_
                simp only [pz]
                refine wpF_look 9 (v := .agg #[.int .i64 d.dev, .int .i64 d.ep, .int .i64 d.seq]) rfl rfl (by kernel_rfl) (by kernel_rfl) (by kernel_rfl) (by kernel_rfl) (fun _ _ _ h => h) hT0 (by rfl) (fun w hS => by have hS : Ext no wr w := hS; have q0 := hS.keeps y0 (fun h => h); have q1 := hS.keeps y1 (fun h => h); have q2 := hS.keeps y2 (fun h => h); go_simp) ?_
                simp only [pz]
                refine wpF_exec 10 rfl (by kernel_rfl) (by rfl) ?_
                intro K hK
                go_simp
                refine (less_any wr.drew q d).mono ?_
                rintro e wa ⟨rfl, hxa⟩
                rw [hlt3]
                have hT1 : ∀ k, looks [(8, fun z => Ext no wr z), (9, fun z => Ext no wr z)] k (wa) := looks_all ⟨((Ext.drew no wr).comp hxa), ((Ext.drew no wr).comp hxa), trivial⟩
                refine hK _ _ (looks [(8, fun z => Ext no wr z), (9, fun z => Ext no wr z)]) ⟨.inr (.inl (by kernel_rfl)), .inr (.inl (by kernel_rfl)), trivial⟩ hT1 ?_
                clear hK K
                try simp only [pz]
                refine wpF_take 11 (v := ?_) rfl (by kernel_rfl) (by kernel_rfl) (by kernel_rfl) (fun _ _ _ h => h) hT1 (by rfl) ?_ ?_
                rotate_left
                · (intro wq; go_simp; try with_reducible rfl)
                simp only [pz]
                refine wpF_done (by kernel_rfl) ?_ _
                go_wp2_with fail
                go_roundw
                case rel => exact ⟨k + 1, by omega, by go_num, fun j b hj hb => by
                  by_cases e : j = k
                  · subst e; rw [hq] at hb; cases hb; exact Hlt.out
                  · exact hlo j b (by omega) hb, hx7.comp ((Ext.drew no wr).comp hxa)⟩
                case measure => simp [intOf]; omega
                -->G
              | false =>
                have Hlt := Lib.hid hlt3
                go_upto_region 10 with fail
                --<H
                refine wp_region_F [8, 9] (looks [(8, fun z => Ext no wr z), (9, fun z => Ext no wr z)]) (by kernel_rfl) ?_
                have hT0 : ∀ k, looks [(8, fun z => Ext no wr z), (9, fun z => Ext no wr z)] k (wr.drew) := looks_all ⟨(Ext.drew no wr), (Ext.drew no wr), trivial⟩
                refine wpF_take 0 (v := ?_) rfl (by kernel_rfl) (by kernel_rfl) (by kernel_rfl) (fun _ _ _ h => h) hT0 (by rfl) ?_ ?_
                rotate_left
                · (intro wq; go_simp; try with_reducible rfl)
                simp only [pz]
                refine wpF_take 1 (v := ?_) rfl (by kernel_rfl) (by kernel_rfl) (by kernel_rfl) (fun _ _ _ h => h) hT0 (by rfl) ?_ ?_
                rotate_left
                · (intro wq; go_simp; try with_reducible rfl)
                simp only [pz]
                refine wpF_take 2 (v := ?_) rfl (by kernel_rfl) (by kernel_rfl) (by kernel_rfl) (fun _ _ _ h => h) hT0 (by rfl) ?_ ?_
                rotate_left
                · (intro wq; go_simp; try with_reducible rfl)
                simp only [pz]
                refine wpF_take 3 (v := .bool true) rfl (by kernel_rfl) (by kernel_rfl) (by kernel_rfl) (fun _ _ _ h => h) hT0 (by rfl) (by intro wq; go_simp) ?_
                simp only [pz]
                refine wpF_take 4 (v := ?_) rfl (by kernel_rfl) (by kernel_rfl) (by kernel_rfl) (fun _ _ _ h => h) hT0 (by rfl) ?_ ?_
                rotate_left
                · (intro wq; go_simp; try with_reducible rfl)
                simp only [pz]
                refine wpF_take 5 (v := ?_) rfl (by kernel_rfl) (by kernel_rfl) (by kernel_rfl) (fun _ _ _ h => h) hT0 (by rfl) ?_ ?_
                rotate_left
                · (intro wq; go_simp; try with_reducible rfl)
                simp only [pz]
                refine wpF_take 6 (v := ?_) rfl (by kernel_rfl) (by kernel_rfl) (by kernel_rfl) (fun _ _ _ h => h) hT0 (by rfl) ?_ ?_
                rotate_left
                · (intro wq; go_simp; try with_reducible rfl)
                simp only [pz]
                refine wpF_take 7 (v := .pointer (some ⟨bb, bo + k * 3, none⟩)) rfl (by kernel_rfl) (by kernel_rfl) (by kernel_rfl) (fun _ _ _ h => h) hT0 (by rfl) (by intro wq; go_simp) ?_
                simp only [pz]
                refine wpF_look 8 (v := .agg #[.int .i64 q.dev, .int .i64 q.ep, .int .i64 q.seq]) rfl rfl (by kernel_rfl) (by kernel_rfl) (by kernel_rfl) (by kernel_rfl) (fun _ _ _ h => h) hT0 (by rfl) (fun w hS => by have hS : Ext no wr w := hS; have q0 := hS.keeps x0 (fun h => h); have q1 := hS.keeps x1 (fun h => h); have q2 := hS.keeps x2 (fun h => h); go_simp) ?_
                simp only [pz]
                refine wpF_look 9 (v := .agg #[.int .i64 d.dev, .int .i64 d.ep, .int .i64 d.seq]) rfl rfl (by kernel_rfl) (by kernel_rfl) (by kernel_rfl) (by kernel_rfl) (fun _ _ _ h => h) hT0 (by rfl) (fun w hS => by have hS : Ext no wr w := hS; have q0 := hS.keeps y0 (fun h => h); have q1 := hS.keeps y1 (fun h => h); have q2 := hS.keeps y2 (fun h => h); go_simp) ?_
                simp only [pz]
                refine wpF_exec 10 rfl (by kernel_rfl) (by rfl) ?_
                intro K hK
                go_simp
                refine (less_any wr.drew q d).mono ?_
                rintro e wa ⟨rfl, hxa⟩
                rw [hlt3]
                have hT1 : ∀ k, looks [(8, fun z => Ext no wr z), (9, fun z => Ext no wr z)] k (wa) := looks_all ⟨((Ext.drew no wr).comp hxa), ((Ext.drew no wr).comp hxa), trivial⟩
                refine hK _ _ (looks [(8, fun z => Ext no wr z), (9, fun z => Ext no wr z)]) ⟨.inr (.inl (by kernel_rfl)), .inr (.inl (by kernel_rfl)), trivial⟩ hT1 ?_
                clear hK K
                try simp only [pz]
                refine wpF_take 11 (v := ?_) rfl (by kernel_rfl) (by kernel_rfl) (by kernel_rfl) (fun _ _ _ h => h) hT1 (by rfl) ?_ ?_
                rotate_left
                · (intro wq; go_simp; try with_reducible rfl)
                simp only [pz]
                refine wpF_done (by kernel_rfl) ?_ _
                go_upto_region 12 with fail
                have hx7a := hx7.comp ((Ext.drew no wr).comp hxa)
                clear x0 x1 x2 y0 y1 y2 hd7 hL7
                have hd7 := hdb.ext (by simp) hx7a (fun h => h)
                have hL7 := hown2.ext hx7a (fun _ _ h => h)
                have y0 := hd7.cell 0 _ rfl
                have y1 := hd7.cell 1 _ rfl
                have y2 := hd7.cell 2 _ rfl
                have x0 := ds_cell hL7.rd hq 0 _ rfl
                have x1 := ds_cell hL7.rd hq 1 _ rfl
                have x2 := ds_cell hL7.rd hq 2 _ rfl
                rw [Nat.add_zero] at x0
                cases hev : q.eqv d with
                | true =>
                  have HINS := Lib.hid (show insN o.dots (i + 1) = L by rw [HI.out, insD_at L d k q hlo hq Hlt.out, if_pos hev])
                  have HE := Lib.hid hev
                  refine wp_region_F [8, 9] (looks [(8, fun z => Ext no wa z), (9, fun z => Ext no wa z)]) (by kernel_rfl) ?_
                  have hT0 : ∀ k, looks [(8, fun z => Ext no wa z), (9, fun z => Ext no wa z)] k (wa.drew) := looks_all ⟨(Ext.drew no wa), (Ext.drew no wa), trivial⟩
                  refine wpF_take 0 (v := ?_) rfl (by kernel_rfl) (by kernel_rfl) (by kernel_rfl) (fun _ _ _ h => h) hT0 (by rfl) ?_ ?_
                  rotate_left
                  · (intro wq; go_simp; try with_reducible rfl)
                  simp only [pz]
                  refine wpF_take 1 (v := ?_) rfl (by kernel_rfl) (by kernel_rfl) (by kernel_rfl) (fun _ _ _ h => h) hT0 (by rfl) ?_ ?_
                  rotate_left
                  · (intro wq; go_simp; try with_reducible rfl)
                  simp only [pz]
                  refine wpF_take 2 (v := ?_) rfl (by kernel_rfl) (by kernel_rfl) (by kernel_rfl) (fun _ _ _ h => h) hT0 (by rfl) ?_ ?_
                  rotate_left
                  · (intro wq; go_simp; try with_reducible rfl)
                  simp only [pz]
                  refine wpF_take 3 (v := .bool true) rfl (by kernel_rfl) (by kernel_rfl) (by kernel_rfl) (fun _ _ _ h => h) hT0 (by rfl) (by intro wq; go_simp) ?_
                  simp only [pz]
                  refine wpF_take 4 (v := ?_) rfl (by kernel_rfl) (by kernel_rfl) (by kernel_rfl) (fun _ _ _ h => h) hT0 (by rfl) ?_ ?_
                  rotate_left
                  · (intro wq; go_simp; try with_reducible rfl)
                  simp only [pz]
                  refine wpF_take 5 (v := ?_) rfl (by kernel_rfl) (by kernel_rfl) (by kernel_rfl) (fun _ _ _ h => h) hT0 (by rfl) ?_ ?_
                  rotate_left
                  · (intro wq; go_simp; try with_reducible rfl)
                  simp only [pz]
                  refine wpF_take 6 (v := ?_) rfl (by kernel_rfl) (by kernel_rfl) (by kernel_rfl) (fun _ _ _ h => h) hT0 (by rfl) ?_ ?_
                  rotate_left
                  · (intro wq; go_simp; try with_reducible rfl)
                  simp only [pz]
                  refine wpF_take 7 (v := .pointer (some ⟨bb, bo + k * 3, none⟩)) rfl (by kernel_rfl) (by kernel_rfl) (by kernel_rfl) (fun _ _ _ h => h) hT0 (by rfl) (by intro wq; go_simp) ?_
                  simp only [pz]
                  refine wpF_look 8 (v := .agg #[.int .i64 q.dev, .int .i64 q.ep, .int .i64 q.seq]) rfl rfl (by kernel_rfl) (by kernel_rfl) (by kernel_rfl) (by kernel_rfl) (fun _ _ _ h => h) hT0 (by rfl) (fun w hS => by have hS : Ext no wa w := hS; have q0 := hS.keeps x0 (fun h => h); have q1 := hS.keeps x1 (fun h => h); have q2 := hS.keeps x2 (fun h => h); go_simp) ?_
                  simp only [pz]
                  refine wpF_look 9 (v := .agg #[.int .i64 d.dev, .int .i64 d.ep, .int .i64 d.seq]) rfl rfl (by kernel_rfl) (by kernel_rfl) (by kernel_rfl) (by kernel_rfl) (fun _ _ _ h => h) hT0 (by rfl) (fun w hS => by have hS : Ext no wa w := hS; have q0 := hS.keeps y0 (fun h => h); have q1 := hS.keeps y1 (fun h => h); have q2 := hS.keeps y2 (fun h => h); go_simp) ?_
                  simp only [pz]
                  refine wpF_take 10 (v := .bool true) rfl (by kernel_rfl) (by kernel_rfl) (by kernel_rfl) (fun _ _ _ h => h) hT0 (by rfl) (by intro wq; go_simp; obtain ⟨z1, z2, z3⟩ := eqv_parts HE.out; rw [if_pos z1, if_pos z2, if_pos z3]) ?_
                  simp only [pz]
                  refine wpF_take 11 (v := ?_) rfl (by kernel_rfl) (by kernel_rfl) (by kernel_rfl) (fun _ _ _ h => h) hT0 (by rfl) ?_ ?_
                  rotate_left
                  · (intro wq; go_simp; try with_reducible rfl)
                  simp only [pz]
                  refine wpF_done (by kernel_rfl) ?_ _
                  have hx8 := hx7a.comp (Ext.drew no wa)
                  go_wp2_with fail
                  go_roundw
                  case rel => exact ⟨i + 1, some ⟨bb, bo, none⟩, c1, by omega, by omega, .inr H3.out, by go_num, by rw [HINS.out], by rw [HINS.out]; exact hown2.ext hx8 (fun _ _ h => h), hxr2.comp hx8⟩
                  case measure => simp [intOf]; omega
                | false =>
                  have HINS := Lib.hid (show insN o.dots (i + 1) = L.take k ++ d :: L.drop k by rw [HI.out, insD_at L d k q hlo hq Hlt.out, if_neg (by rw [hev]; simp)])
                  have HE := Lib.hid hev
                  refine wp_region_F [8, 9] (looks [(8, fun z => Ext no wa z), (9, fun z => Ext no wa z)]) (by kernel_rfl) ?_
                  have hT0 : ∀ k, looks [(8, fun z => Ext no wa z), (9, fun z => Ext no wa z)] k (wa.drew) := looks_all ⟨(Ext.drew no wa), (Ext.drew no wa), trivial⟩
                  refine wpF_take 0 (v := ?_) rfl (by kernel_rfl) (by kernel_rfl) (by kernel_rfl) (fun _ _ _ h => h) hT0 (by rfl) ?_ ?_
                  rotate_left
                  · (intro wq; go_simp; try with_reducible rfl)
                  simp only [pz]
                  refine wpF_take 1 (v := ?_) rfl (by kernel_rfl) (by kernel_rfl) (by kernel_rfl) (fun _ _ _ h => h) hT0 (by rfl) ?_ ?_
                  rotate_left
                  · (intro wq; go_simp; try with_reducible rfl)
                  simp only [pz]
                  refine wpF_take 2 (v := ?_) rfl (by kernel_rfl) (by kernel_rfl) (by kernel_rfl) (fun _ _ _ h => h) hT0 (by rfl) ?_ ?_
                  rotate_left
                  · (intro wq; go_simp; try with_reducible rfl)
                  simp only [pz]
                  refine wpF_take 3 (v := .bool true) rfl (by kernel_rfl) (by kernel_rfl) (by kernel_rfl) (fun _ _ _ h => h) hT0 (by rfl) (by intro wq; go_simp) ?_
                  simp only [pz]
                  refine wpF_take 4 (v := ?_) rfl (by kernel_rfl) (by kernel_rfl) (by kernel_rfl) (fun _ _ _ h => h) hT0 (by rfl) ?_ ?_
                  rotate_left
                  · (intro wq; go_simp; try with_reducible rfl)
                  simp only [pz]
                  refine wpF_take 5 (v := ?_) rfl (by kernel_rfl) (by kernel_rfl) (by kernel_rfl) (fun _ _ _ h => h) hT0 (by rfl) ?_ ?_
                  rotate_left
                  · (intro wq; go_simp; try with_reducible rfl)
                  simp only [pz]
                  refine wpF_take 6 (v := ?_) rfl (by kernel_rfl) (by kernel_rfl) (by kernel_rfl) (fun _ _ _ h => h) hT0 (by rfl) ?_ ?_
                  rotate_left
                  · (intro wq; go_simp; try with_reducible rfl)
                  simp only [pz]
                  refine wpF_take 7 (v := .pointer (some ⟨bb, bo + k * 3, none⟩)) rfl (by kernel_rfl) (by kernel_rfl) (by kernel_rfl) (fun _ _ _ h => h) hT0 (by rfl) (by intro wq; go_simp) ?_
                  simp only [pz]
                  refine wpF_look 8 (v := .agg #[.int .i64 q.dev, .int .i64 q.ep, .int .i64 q.seq]) rfl rfl (by kernel_rfl) (by kernel_rfl) (by kernel_rfl) (by kernel_rfl) (fun _ _ _ h => h) hT0 (by rfl) (fun w hS => by have hS : Ext no wa w := hS; have q0 := hS.keeps x0 (fun h => h); have q1 := hS.keeps x1 (fun h => h); have q2 := hS.keeps x2 (fun h => h); go_simp) ?_
                  simp only [pz]
                  refine wpF_look 9 (v := .agg #[.int .i64 d.dev, .int .i64 d.ep, .int .i64 d.seq]) rfl rfl (by kernel_rfl) (by kernel_rfl) (by kernel_rfl) (by kernel_rfl) (fun _ _ _ h => h) hT0 (by rfl) (fun w hS => by have hS : Ext no wa w := hS; have q0 := hS.keeps y0 (fun h => h); have q1 := hS.keeps y1 (fun h => h); have q2 := hS.keeps y2 (fun h => h); go_simp) ?_
                  simp only [pz]
                  refine wpF_take 10 (v := .bool false) rfl (by kernel_rfl) (by kernel_rfl) (by kernel_rfl) (fun _ _ _ h => h) hT0 (by rfl) (by intro wq; go_simp; exact eqv_not HE.out) ?_
                  simp only [pz]
                  refine wpF_take 11 (v := ?_) rfl (by kernel_rfl) (by kernel_rfl) (by kernel_rfl) (fun _ _ _ h => h) hT0 (by rfl) ?_ ?_
                  rotate_left
                  · (intro wq; go_simp; try with_reducible rfl)
                  simp only [pz]
                  refine wpF_done (by kernel_rfl) ?_ _
                  clear x0 x1 x2 y0 y1 y2 hd7 hL7 hx7
                  have hx7 := hx7a.comp (Ext.drew no wa)
                  clear hx7a
                  generalize wa.drew = w7 at *
                  generalize (some ⟨bb, bo, none⟩ : Option Addr) = a1 at *
                  have hk7 := hxr2.comp hx7
                  have hL7 := hown2.ext hx7 (fun _ _ h => h)
                  have hd7 := hdb.ext (by simp) hx7 (fun h => h)
                  have y0 := hd7.cell 0 _ rfl
                  have y1 := hd7.cell 1 _ rfl
                  have y2 := hd7.cell 2 _ rfl
                  have hnc := hL7.nc
                  have hsz7 := hx7.size
                  have hdl := hdb.lt (by simp)
                  have hlow : ∀ ad, a1 = some ad → ad.block < w7.heap.size := fun ad h => (hL7.base ad h).2.1
                  have cuth : ∀ w, (Instr.sliceAt 28 (.slice a1 L.length c1) none (some (.int .i64 (k : Int))) none).run Tryz.prog w = .ok (.slice a1 k c1) w := fun w => run_cut_h TDots w a1 L.length c1 .i64 k (by omega)
                  have cutl : ∀ w, (Instr.sliceAt 28 (.slice a1 L.length c1) (some (.int .i64 (k : Int))) none none).run Tryz.prog w = .ok (.slice (cutAt a1 c1 k 3) (L.length - k) (c1 - k)) w := fun w => run_cut_l TDots w a1 L.length c1 .i64 k hkL
                  go_wp2_with (at_builtin; refine wpList_append TDots rfl rfl rfl (emptied3 w7 39) rfl (ys := ds (L.take k)) (by rw [← ds_take]; exact (hL7.rd.alloc _).take _) (by rw [ds_length, List.length_take]; omega) (ds_one _) (by unfold maxLen; omega) (by omega) (by simp) ?_)
                  intro a8 c8 w8 hA8
                  have ho8 := hA8.own
                  have hx8 : Ext no w7 w8 := Ext.ofBelow (((Below.refl _ _).alloc (Nat.le_refl _) _).trans ((emptied3 w7 39).below hA8.ext (by simp))) (Nat.le_refl _)
                  rw [Nat.zero_add, List.nil_append] at ho8
                  clear hA8
                  have y0 := hx8.keeps y0 (fun h => h)
                  have y1 := hx8.keeps y1 (fun h => h)
                  have y2 := hx8.keeps y2 (fun h => h)
                  have hsz8 := hx8.size
                  go_wp2_with (at_builtin; refine wpList_append TDots rfl rfl rfl (ho8.ext (Ext.alloc no _ _) (fun _ _ h => h)) rfl (Rd.lit w8 _ _ _) (by simp) (by intro u hu; simp at hu; rcases hu with rfl | rfl | rfl <;> rfl) (by unfold maxLen; omega) (by omega) (by simp; omega) ?_)
                  intro a9 c9 w9 hA9
                  have ho9 := hA9.own
                  have hx9 : Ext no w7 w9 := Ext.ofBelow (hx8.belowAll.trans (((Below.refl _ _).alloc hsz8 _).trans ((ho8.ext (Ext.alloc no _ _) (fun _ _ h => h)).below hA9.ext (by simp; omega)))) (Nat.le_refl _)
                  have hsz9 := hx9.size
                  have hL9 := hL7.ext hx9 (fun _ _ h => h)
                  clear hA9 hd7 ho8
                  go_wp2_with (at_builtin; refine wpList_append TDots rfl rfl rfl ho9 rfl (ys := ds (L.drop k)) (by rw [← ds_drop]; exact hL9.rd.cutAt c1 k 3 (fun h => by rw [ds_length]; omega)) (by rw [ds_length, List.length_drop]) (ds_one _) (by unfold maxLen; omega) (by omega) (by omega) ?_)
                  intro a10 c10 w10 hA10
                  have hx10 : Ext no w7 w10 := Ext.ofBelow (hx9.belowAll.trans (ho9.below hA10.ext (by omega))) (Nat.le_refl _)
                  have ho10 := hA10.own.mono (show g + 2 ≤ w7.heap.size by omega)
                  have HN := Lib.hid (show (L.take k ++ d :: L.drop k).length = k + 1 + (L.length - k) by simp [List.length_take]; omega)
                  have HO : Own w10 (g + 2) a10 3 (L.take k ++ d :: L.drop k).length c10 (ds (L.take k ++ d :: L.drop k)) := by
                    rw [HN.out, ds_append]
                    show Own w10 (g + 2) a10 3 (k + 1 + (L.length - k)) c10 (ds (L.take k) ++ ([.int .i64 d.dev, .int .i64 d.ep, .int .i64 d.seq] ++ ds (L.drop k)))
                    rw [← List.append_assoc]
                    exact ho10
                  have hxz := hk7.comp hx10
                  clear hA10 ho10 ho9 hL9 hx9 hx8 hL7 y0 y1 y2 cuth cutl hlow
                  go_wp2_with fail
                  go_roundw
                  case rel => exact ⟨i + 1, a10, c10, by omega, by omega, .inr H3.out, by go_num, by rw [HINS.out, HN.out], by rw [HINS.out]; exact HO, hxz⟩
                  case measure => simp [intOf]; omega
                -->H
            · have e1 : decide (k < L.length) = false := decF hkl
              have HINS := Lib.hid (show insN o.dots (i + 1) = L.take k ++ d :: L.drop k by
                rw [HI.out, insD_end L d (fun j b hb => hlo j b (by have := (List.getElem?_eq_some_iff.1 hb).1; omega) hb), List.take_of_length_le (by omega), List.drop_eq_nil_of_le (by omega)])
              go_upto_region 10 with fail
              --<I
              refine wp_region_F [8, 9] (looks [(8, fun z => True), (9, fun z => True)]) (by kernel_rfl) ?_
              have hT0 : ∀ k, looks [(8, fun z => True), (9, fun z => True)] k (wr.drew) := looks_all ⟨trivial, trivial, trivial⟩
              refine wpF_take 0 (v := ?_) rfl (by kernel_rfl) (by kernel_rfl) (by kernel_rfl) (fun _ _ _ h => h) hT0 (by rfl) ?_ ?_
              rotate_left
              · (intro wq; go_simp; try with_reducible rfl)
              simp only [pz]
              refine wpF_take 1 (v := ?_) rfl (by kernel_rfl) (by kernel_rfl) (by kernel_rfl) (fun _ _ _ h => h) hT0 (by rfl) ?_ ?_
              rotate_left
              · (intro wq; go_simp; try with_reducible rfl)
              simp only [pz]
              refine wpF_take 2 (v := ?_) rfl (by kernel_rfl) (by kernel_rfl) (by kernel_rfl) (fun _ _ _ h => h) hT0 (by rfl) ?_ ?_
              rotate_left
              · (intro wq; go_simp; try with_reducible rfl)
              simp only [pz]
              refine wpF_take 3 (v := .bool false) rfl (by kernel_rfl) (by kernel_rfl) (by kernel_rfl) (fun _ _ _ h => h) hT0 (by rfl) (by intro wq; go_simp) ?_
              simp only [pz]
              refine wpF_take 4 (v := ?_) rfl (by kernel_rfl) (by kernel_rfl) (by kernel_rfl) (fun _ _ _ h => h) hT0 (by rfl) ?_ ?_
              rotate_left
              · (intro wq; go_simp; try with_reducible rfl)
              simp only [pz]
              refine wpF_skip 5 rfl (by kernel_rfl) (by kernel_rfl) (by kernel_rfl) (fun _ _ _ h => h) hT0 (by rfl) ?_
              simp only [pz]
              refine wpF_skip 6 rfl (by kernel_rfl) (by kernel_rfl) (by kernel_rfl) (fun _ _ _ h => h) hT0 (by rfl) ?_
              simp only [pz]
              refine wpF_skip 7 rfl (by kernel_rfl) (by kernel_rfl) (by kernel_rfl) (fun _ _ _ h => h) hT0 (by rfl) ?_
              simp only [pz]
              refine wpF_skip 8 rfl (by kernel_rfl) (by kernel_rfl) (by kernel_rfl) (fun _ _ _ h => h) hT0 (by rfl) ?_
              simp only [pz]
              refine wpF_skip 9 rfl (by kernel_rfl) (by kernel_rfl) (by kernel_rfl) (fun _ _ _ h => h) hT0 (by rfl) ?_
              simp only [pz]
              refine wpF_skip 10 rfl (by kernel_rfl) (by kernel_rfl) (by kernel_rfl) (fun _ _ _ h => h) hT0 (by rfl) ?_
              simp only [pz]
              refine wpF_take 11 (v := ?_) rfl (by kernel_rfl) (by kernel_rfl) (by kernel_rfl) (fun _ _ _ h => h) hT0 (by rfl) ?_ ?_
              rotate_left
              · (intro wq; go_simp; try with_reducible rfl)
              simp only [pz]
              refine wpF_done (by kernel_rfl) ?_ _
              go_upto_region 12 with fail
              refine wp_region_F [8, 9] (looks [(8, fun z => True), (9, fun z => True)]) (by kernel_rfl) ?_
              have hT0 : ∀ k, looks [(8, fun z => True), (9, fun z => True)] k (wr.drew.drew) := looks_all ⟨trivial, trivial, trivial⟩
              refine wpF_take 0 (v := ?_) rfl (by kernel_rfl) (by kernel_rfl) (by kernel_rfl) (fun _ _ _ h => h) hT0 (by rfl) ?_ ?_
              rotate_left
              · (intro wq; go_simp; try with_reducible rfl)
              simp only [pz]
              refine wpF_take 1 (v := ?_) rfl (by kernel_rfl) (by kernel_rfl) (by kernel_rfl) (fun _ _ _ h => h) hT0 (by rfl) ?_ ?_
              rotate_left
              · (intro wq; go_simp; try with_reducible rfl)
              simp only [pz]
              refine wpF_take 2 (v := ?_) rfl (by kernel_rfl) (by kernel_rfl) (by kernel_rfl) (fun _ _ _ h => h) hT0 (by rfl) ?_ ?_
              rotate_left
              · (intro wq; go_simp; try with_reducible rfl)
              simp only [pz]
              refine wpF_take 3 (v := .bool false) rfl (by kernel_rfl) (by kernel_rfl) (by kernel_rfl) (fun _ _ _ h => h) hT0 (by rfl) (by intro wq; go_simp) ?_
              simp only [pz]
              refine wpF_take 4 (v := ?_) rfl (by kernel_rfl) (by kernel_rfl) (by kernel_rfl) (fun _ _ _ h => h) hT0 (by rfl) ?_ ?_
              rotate_left
              · (intro wq; go_simp; try with_reducible rfl)
              simp only [pz]
              refine wpF_skip 5 rfl (by kernel_rfl) (by kernel_rfl) (by kernel_rfl) (fun _ _ _ h => h) hT0 (by rfl) ?_
              simp only [pz]
              refine wpF_skip 6 rfl (by kernel_rfl) (by kernel_rfl) (by kernel_rfl) (fun _ _ _ h => h) hT0 (by rfl) ?_
              simp only [pz]
              refine wpF_skip 7 rfl (by kernel_rfl) (by kernel_rfl) (by kernel_rfl) (fun _ _ _ h => h) hT0 (by rfl) ?_
              simp only [pz]
              refine wpF_skip 8 rfl (by kernel_rfl) (by kernel_rfl) (by kernel_rfl) (fun _ _ _ h => h) hT0 (by rfl) ?_
              simp only [pz]
              refine wpF_skip 9 rfl (by kernel_rfl) (by kernel_rfl) (by kernel_rfl) (fun _ _ _ h => h) hT0 (by rfl) ?_
              simp only [pz]
              refine wpF_skip 10 rfl (by kernel_rfl) (by kernel_rfl) (by kernel_rfl) (fun _ _ _ h => h) hT0 (by rfl) ?_
              simp only [pz]
              refine wpF_take 11 (v := ?_) rfl (by kernel_rfl) (by kernel_rfl) (by kernel_rfl) (fun _ _ _ h => h) hT0 (by rfl) ?_ ?_
              rotate_left
              · (intro wq; go_simp; try with_reducible rfl)
              simp only [pz]
              refine wpF_done (by kernel_rfl) ?_ _
              clear y0 y1 y2 hd7 hL7
              have hx7' := (hx7.comp (Ext.drew no wr)).comp (Ext.drew no _)
              clear hx7
              have hx7 := hx7'
              clear hx7'
              generalize wr.drew.drew = w7 at *
              have hk7 := hxr2.comp hx7
              have hL7 := hown2.ext hx7 (fun _ _ h => h)
              have hd7 := hdb.ext (by simp) hx7 (fun h => h)
              have y0 := hd7.cell 0 _ rfl
              have y1 := hd7.cell 1 _ rfl
              have y2 := hd7.cell 2 _ rfl
              have hnc := hL7.nc
              have hsz7 := hx7.size
              have hdl := hdb.lt (by simp)
              have hlow : ∀ ad, a1 = some ad → ad.block < w7.heap.size := fun ad h => (hL7.base ad h).2.1
              have cuth : ∀ w, (Instr.sliceAt 28 (.slice a1 L.length c1) none (some (.int .i64 (k : Int))) none).run Tryz.prog w = .ok (.slice a1 k c1) w := fun w => run_cut_h TDots w a1 L.length c1 .i64 k (by omega)
              have cutl : ∀ w, (Instr.sliceAt 28 (.slice a1 L.length c1) (some (.int .i64 (k : Int))) none none).run Tryz.prog w = .ok (.slice (cutAt a1 c1 k 3) (L.length - k) (c1 - k)) w := fun w => run_cut_l TDots w a1 L.length c1 .i64 k hkL
              go_wp2_with (at_builtin; refine wpList_append TDots rfl rfl rfl (emptied3 w7 39) rfl (ys := ds (L.take k)) (by rw [← ds_take]; exact (hL7.rd.alloc _).take _) (by rw [ds_length, List.length_take]; omega) (ds_one _) (by unfold maxLen; omega) (by omega) (by simp) ?_)
              intro a8 c8 w8 hA8
              have ho8 := hA8.own
              have hx8 : Ext no w7 w8 := Ext.ofBelow (((Below.refl _ _).alloc (Nat.le_refl _) _).trans ((emptied3 w7 39).below hA8.ext (by simp))) (Nat.le_refl _)
              rw [Nat.zero_add, List.nil_append] at ho8
              clear hA8
              have y0 := hx8.keeps y0 (fun h => h)
              have y1 := hx8.keeps y1 (fun h => h)
              have y2 := hx8.keeps y2 (fun h => h)
              have hsz8 := hx8.size
              go_wp2_with (at_builtin; refine wpList_append TDots rfl rfl rfl (ho8.ext (Ext.alloc no _ _) (fun _ _ h => h)) rfl (Rd.lit w8 _ _ _) (by simp) (by intro u hu; simp at hu; rcases hu with rfl | rfl | rfl <;> rfl) (by unfold maxLen; omega) (by omega) (by simp; omega) ?_)
              intro a9 c9 w9 hA9
              have ho9 := hA9.own
              have hx9 : Ext no w7 w9 := Ext.ofBelow (hx8.belowAll.trans (((Below.refl _ _).alloc hsz8 _).trans ((ho8.ext (Ext.alloc no _ _) (fun _ _ h => h)).below hA9.ext (by simp; omega)))) (Nat.le_refl _)
              have hsz9 := hx9.size
              have hL9 := hL7.ext hx9 (fun _ _ h => h)
              clear hA9 hd7 ho8
              go_wp2_with (at_builtin; refine wpList_append TDots rfl rfl rfl ho9 rfl (ys := ds (L.drop k)) (by rw [← ds_drop]; exact hL9.rd.cutAt c1 k 3 (fun h => by rw [ds_length]; omega)) (by rw [ds_length, List.length_drop]) (ds_one _) (by unfold maxLen; omega) (by omega) (by omega) ?_)
              intro a10 c10 w10 hA10
              have hx10 : Ext no w7 w10 := Ext.ofBelow (hx9.belowAll.trans (ho9.below hA10.ext (by omega))) (Nat.le_refl _)
              have ho10 := hA10.own.mono (show g + 2 ≤ w7.heap.size by omega)
              have HN := Lib.hid (show (L.take k ++ d :: L.drop k).length = k + 1 + (L.length - k) by simp [List.length_take]; omega)
              have HO : Own w10 (g + 2) a10 3 (L.take k ++ d :: L.drop k).length c10 (ds (L.take k ++ d :: L.drop k)) := by
                rw [HN.out, ds_append]
                show Own w10 (g + 2) a10 3 (k + 1 + (L.length - k)) c10 (ds (L.take k) ++ ([.int .i64 d.dev, .int .i64 d.ep, .int .i64 d.seq] ++ ds (L.drop k)))
                rw [← List.append_assoc]
                exact ho10
              have hxz := hk7.comp hx10
              clear hA10 ho10 ho9 hL9 hx9 hx8 hL7 y0 y1 y2 cuth cutl hlow
              go_wp2_with fail
              go_roundw
              case rel => exact ⟨i + 1, a10, c10, by omega, by omega, .inr H3.out, by go_num, by rw [HINS.out, HN.out], by rw [HINS.out]; exact HO, hxz⟩
              case measure => simp [intOf]; omega
              -->I
          -->F
    case rest =>
      --<Z
      obtain ⟨a2, c2, e3, ho2, hx6⟩ := hcut
      subst e3
      generalize wc = w6 at *
      have hb6 := hb5.ext (by simp) hx6 (fun h => h)
      have hz6 := hz5.ext (by simp) hx6 (fun h => h)
      have hxw6 := hx5.comp hx6
      clear hb5 hz5 hx5 hx6
      have c10 := hb6.cell 10 _ rfl
      have f10 := hb6.fr 10
      go_upto_region 17 with fail
      have ho6 := ho2
      have hb7 : Blk (w6.setCell ⟨g, 10, none⟩ (.slice a2 (goodOp o).dots.length c2)) g [.int .i64 (o.dot.dev % 6), .int .i64 (1 + o.dot.ep % 3), .int .i64 (1 + o.dot.seq % 30), .int .i64 (o.coll % 3), .int .i64 (1 + o.ver % 3), .int .i64 (1 + o.kind % 5), .string (str (goodKey o.key)), .string (str (goodText o.text)), .int .i64 o.n, .int .i64 (o.time % 50), .slice a2 (goodOp o).dots.length c2] := hb6.set 10 (.slice a2 (goodOp o).dots.length c2) (by simp)
      have hz7 := hz6.other (g := g) (by omega) 10 (.slice a2 (goodOp o).dots.length c2)
      have hxw7 := hxw6.set1 hgw 10 (.slice a2 (goodOp o).dots.length c2)
      have ho7 := ho6.ext (Ext.setCell w6 ⟨g, 10, none⟩ (.slice a2 (goodOp o).dots.length c2) (S := just g) rfl) (fun ad h e => by have := (ho6.base ad h).1; simp only [Esc.just] at e; omega)
      clear hb6 hz6 hxw6 ho6
      generalize w6.setCell ⟨g, 10, none⟩ (.slice a2 (goodOp o).dots.length c2) = w7 at *
      clear c10 f10 ho2
      have c8 := hb7.cell 8 _ rfl
      have g8 := hb7.fr 8
      have hK : 1 ≤ 1 + o.kind % 5 ∧ 1 + o.kind % 5 ≤ 5 := by omega
      by_cases h4 : 1 + o.kind % 5 = 4
      · have H4 := Lib.hid h4
        have e4 : ((1 + o.kind % 5) == (4 : Int)) = true := by rw [beq_iff_eq]; exact h4
        have c5 := hb7.cell 5 _ rfl
        clear h4 hK
        go_wp2_with fail
        refine (within_any o.n 12 w7 (by omega) (by omega) hok.n).mono ?_
        rintro e w8 ⟨rfl, rfl⟩
        have hw12 : IntKind.i64.wrap (o.n % 12 - 6) = o.n % 12 - 6 := by rw [IntKind.wrap_i64]; omega
        go_upto_region 20 with fail
        have hb8 : Blk (w7.setCell ⟨g, 8, none⟩ (.int .i64 (o.n % 12 - 6))) g [.int .i64 (o.dot.dev % 6), .int .i64 (1 + o.dot.ep % 3), .int .i64 (1 + o.dot.seq % 30), .int .i64 (o.coll % 3), .int .i64 (1 + o.ver % 3), .int .i64 (1 + o.kind % 5), .string (str (goodKey o.key)), .string (str (goodText o.text)), .int .i64 (o.n % 12 - 6), .int .i64 (o.time % 50), .slice a2 (goodOp o).dots.length c2] := hb7.set 8 (.int .i64 (o.n % 12 - 6)) (by simp)
        have hz8 := hz7.other (g := g) (by omega) 8 (.int .i64 (o.n % 12 - 6))
        have hxw8 := hxw7.set1 hgw 8 (.int .i64 (o.n % 12 - 6))
        have ho8 := ho7.ext (Ext.setCell w7 ⟨g, 8, none⟩ (.int .i64 (o.n % 12 - 6)) (S := just g) rfl) (fun ad h e => by have := (ho7.base ad h).1; simp only [Esc.just] at e; omega)
        clear hb7 hz7 hxw7 ho7
        generalize w7.setCell ⟨g, 8, none⟩ (.int .i64 (o.n % 12 - 6)) = w8 at *
        clear c8 g8 c5 hw12
        have c8 := hb8.cell 8 _ rfl
        have g8 := hb8.fr 8
        by_cases hz0 : o.n % 12 - 6 = 0
        · have e20 : ((o.n % 12 - 6) == (0 : Int)) = true := by rw [beq_iff_eq]; exact hz0
          have HN := Lib.hid (show goodN (1 + o.kind % 5) o.n = 6 by unfold goodN; rw [if_pos H4.out, if_pos hz0])
          clear hz0
          go_upto_region 24 with fail
          have hb9 : Blk (w8.setCell ⟨g, 8, none⟩ (.int .i64 6)) g [.int .i64 (o.dot.dev % 6), .int .i64 (1 + o.dot.ep % 3), .int .i64 (1 + o.dot.seq % 30), .int .i64 (o.coll % 3), .int .i64 (1 + o.ver % 3), .int .i64 (1 + o.kind % 5), .string (str (goodKey o.key)), .string (str (goodText o.text)), .int .i64 6, .int .i64 (o.time % 50), .slice a2 (goodOp o).dots.length c2] := hb8.set 8 (.int .i64 6) (by simp)
          have hz9 := hz8.other (g := g) (by omega) 8 (.int .i64 6)
          have hxw9 := hxw8.set1 hgw 8 (.int .i64 6)
          have ho9 := ho8.ext (Ext.setCell w8 ⟨g, 8, none⟩ (.int .i64 6) (S := just g) rfl) (fun ad h e => by have := (ho8.base ad h).1; simp only [Esc.just] at e; omega)
          clear hb8 hz8 hxw8 ho8
          generalize w8.setCell ⟨g, 8, none⟩ (.int .i64 6) = w9 at *
          clear c8 g8
          have hG : Blk w9 g ((goodOp o).cells a2 c2) := by
            have : ((goodOp o).cells a2 c2) = [.int .i64 (o.dot.dev % 6), .int .i64 (1 + o.dot.ep % 3), .int .i64 (1 + o.dot.seq % 30), .int .i64 (o.coll % 3), .int .i64 (1 + o.ver % 3), .int .i64 (1 + o.kind % 5), .string (str (goodKey o.key)), .string (str (goodText o.text)), .int .i64 6, .int .i64 (o.time % 50), .slice a2 (goodOp o).dots.length c2] := by unfold OpR.cells; rw [show (goodOp o).n = 6 from HN.out]; rfl
            rw [this]; exact hb9
          have b0 := hb9.cell 0 _ rfl
          have b1 := hb9.cell 1 _ rfl
          have b2 := hb9.cell 2 _ rfl
          have b3 := hb9.cell 3 _ rfl
          have b4 := hb9.cell 4 _ rfl
          have b5 := hb9.cell 5 _ rfl
          have b6 := hb9.cell 6 _ rfl
          have b7 := hb9.cell 7 _ rfl
          have b8 := hb9.cell 8 _ rfl
          have b9 := hb9.cell 9 _ rfl
          have b10 := hb9.cell 10 _ rfl
          have z0 := hz9.cell 0 _ rfl
          have z1 := hz9.cell 1 _ rfl
          have z2 := hz9.cell 2 _ rfl
          have z3 := hz9.cell 3 _ rfl
          have z4 := hz9.cell 4 _ rfl
          have z5 := hz9.cell 5 _ rfl
          have z6 := hz9.cell 6 _ rfl
          have z7 := hz9.cell 7 _ rfl
          have z8 := hz9.cell 8 _ rfl
          have z9 := hz9.cell 9 _ rfl
          have z10 := hz9.cell 10 _ rfl
          have f0 := hz9.fr 0
          have f1 := hz9.fr 1
          have f2 := hz9.fr 2
          have f3 := hz9.fr 3
          have f4 := hz9.fr 4
          have f5 := hz9.fr 5
          have f6 := hz9.fr 6
          have f7 := hz9.fr 7
          have f8 := hz9.fr 8
          have f9 := hz9.fr 9
          have f10 := hz9.fr 10
          have hxe : Ext no w (((((((((((w9.setCell ⟨g + 1, 0, none⟩ (.int .i64 (o.dot.dev % 6))).setCell ⟨g + 1, 1, none⟩ (.int .i64 (1 + o.dot.ep % 3))).setCell ⟨g + 1, 2, none⟩ (.int .i64 (1 + o.dot.seq % 30))).setCell ⟨g + 1, 3, none⟩ (.int .i64 (o.coll % 3))).setCell ⟨g + 1, 4, none⟩ (.int .i64 (1 + o.ver % 3))).setCell ⟨g + 1, 5, none⟩ (.int .i64 (1 + o.kind % 5))).setCell ⟨g + 1, 6, none⟩ (.string (str (goodKey o.key)))).setCell ⟨g + 1, 7, none⟩ (.string (str (goodText o.text)))).setCell ⟨g + 1, 8, none⟩ (.int .i64 6)).setCell ⟨g + 1, 9, none⟩ (.int .i64 (o.time % 50))).setCell ⟨g + 1, 10, none⟩ (.slice a2 (goodOp o).dots.length c2)) := (((((((((((hxw9.set1 (show w.heap.size ≤ g + 1 by omega) 0 (.int .i64 (o.dot.dev % 6))).set1 (show w.heap.size ≤ g + 1 by omega) 1 (.int .i64 (1 + o.dot.ep % 3))).set1 (show w.heap.size ≤ g + 1 by omega) 2 (.int .i64 (1 + o.dot.seq % 30))).set1 (show w.heap.size ≤ g + 1 by omega) 3 (.int .i64 (o.coll % 3))).set1 (show w.heap.size ≤ g + 1 by omega) 4 (.int .i64 (1 + o.ver % 3))).set1 (show w.heap.size ≤ g + 1 by omega) 5 (.int .i64 (1 + o.kind % 5))).set1 (show w.heap.size ≤ g + 1 by omega) 6 (.string (str (goodKey o.key)))).set1 (show w.heap.size ≤ g + 1 by omega) 7 (.string (str (goodText o.text)))).set1 (show w.heap.size ≤ g + 1 by omega) 8 (.int .i64 6)).set1 (show w.heap.size ≤ g + 1 by omega) 9 (.int .i64 (o.time % 50))).set1 (show w.heap.size ≤ g + 1 by omega) 10 (.slice a2 (goodOp o).dots.length c2))
          have hre : Rd (((((((((((w9.setCell ⟨g + 1, 0, none⟩ (.int .i64 (o.dot.dev % 6))).setCell ⟨g + 1, 1, none⟩ (.int .i64 (1 + o.dot.ep % 3))).setCell ⟨g + 1, 2, none⟩ (.int .i64 (1 + o.dot.seq % 30))).setCell ⟨g + 1, 3, none⟩ (.int .i64 (o.coll % 3))).setCell ⟨g + 1, 4, none⟩ (.int .i64 (1 + o.ver % 3))).setCell ⟨g + 1, 5, none⟩ (.int .i64 (1 + o.kind % 5))).setCell ⟨g + 1, 6, none⟩ (.string (str (goodKey o.key)))).setCell ⟨g + 1, 7, none⟩ (.string (str (goodText o.text)))).setCell ⟨g + 1, 8, none⟩ (.int .i64 6)).setCell ⟨g + 1, 9, none⟩ (.int .i64 (o.time % 50))).setCell ⟨g + 1, 10, none⟩ (.slice a2 (goodOp o).dots.length c2)) a2 (ds (goodOp o).dots) := ho9.rd.ext ((((((((((((Ext.refl (just (g + 1)) w9).comp (Ext.setCell _ ⟨g + 1, 0, none⟩ (.int .i64 (o.dot.dev % 6)) rfl)).comp (Ext.setCell _ ⟨g + 1, 1, none⟩ (.int .i64 (1 + o.dot.ep % 3)) rfl)).comp (Ext.setCell _ ⟨g + 1, 2, none⟩ (.int .i64 (1 + o.dot.seq % 30)) rfl)).comp (Ext.setCell _ ⟨g + 1, 3, none⟩ (.int .i64 (o.coll % 3)) rfl)).comp (Ext.setCell _ ⟨g + 1, 4, none⟩ (.int .i64 (1 + o.ver % 3)) rfl)).comp (Ext.setCell _ ⟨g + 1, 5, none⟩ (.int .i64 (1 + o.kind % 5)) rfl)).comp (Ext.setCell _ ⟨g + 1, 6, none⟩ (.string (str (goodKey o.key))) rfl)).comp (Ext.setCell _ ⟨g + 1, 7, none⟩ (.string (str (goodText o.text))) rfl)).comp (Ext.setCell _ ⟨g + 1, 8, none⟩ (.int .i64 6) rfl)).comp (Ext.setCell _ ⟨g + 1, 9, none⟩ (.int .i64 (o.time % 50)) rfl)).comp (Ext.setCell _ ⟨g + 1, 10, none⟩ (.slice a2 (goodOp o).dots.length c2) rfl)) (fun ad h e => by have := (ho9.base ad h).1; simp only [Esc.just] at e; omega)
          have hze : Blk (((((((((((w9.setCell ⟨g + 1, 0, none⟩ (.int .i64 (o.dot.dev % 6))).setCell ⟨g + 1, 1, none⟩ (.int .i64 (1 + o.dot.ep % 3))).setCell ⟨g + 1, 2, none⟩ (.int .i64 (1 + o.dot.seq % 30))).setCell ⟨g + 1, 3, none⟩ (.int .i64 (o.coll % 3))).setCell ⟨g + 1, 4, none⟩ (.int .i64 (1 + o.ver % 3))).setCell ⟨g + 1, 5, none⟩ (.int .i64 (1 + o.kind % 5))).setCell ⟨g + 1, 6, none⟩ (.string (str (goodKey o.key)))).setCell ⟨g + 1, 7, none⟩ (.string (str (goodText o.text)))).setCell ⟨g + 1, 8, none⟩ (.int .i64 6)).setCell ⟨g + 1, 9, none⟩ (.int .i64 (o.time % 50))).setCell ⟨g + 1, 10, none⟩ (.slice a2 (goodOp o).dots.length c2)) (g + 1) [.int .i64 (o.dot.dev % 6), .int .i64 (1 + o.dot.ep % 3), .int .i64 (1 + o.dot.seq % 30), .int .i64 (o.coll % 3), .int .i64 (1 + o.ver % 3), .int .i64 (1 + o.kind % 5), .string (str (goodKey o.key)), .string (str (goodText o.text)), .int .i64 6, .int .i64 (o.time % 50), .slice a2 (goodOp o).dots.length c2] := (((((((((((hz9.set 0 (.int .i64 (o.dot.dev % 6)) (by simp)).set 1 (.int .i64 (1 + o.dot.ep % 3)) (by simp)).set 2 (.int .i64 (1 + o.dot.seq % 30)) (by simp)).set 3 (.int .i64 (o.coll % 3)) (by simp)).set 4 (.int .i64 (1 + o.ver % 3)) (by simp)).set 5 (.int .i64 (1 + o.kind % 5)) (by simp)).set 6 (.string (str (goodKey o.key))) (by simp)).set 7 (.string (str (goodText o.text))) (by simp)).set 8 (.int .i64 6) (by simp)).set 9 (.int .i64 (o.time % 50)) (by simp)).set 10 (.slice a2 (goodOp o).dots.length c2) (by simp))
          have hce := ho9.nc
          have hfz : ∀ ad, a2 = some ad → w.heap.size ≤ ad.block := fun ad h => by have := (ho9.base ad h).1; omega
          have hme := ho9.cm
          go_wp2_with fail
          generalize (((((((((((w9.setCell ⟨g + 1, 0, none⟩ (.int .i64 (o.dot.dev % 6))).setCell ⟨g + 1, 1, none⟩ (.int .i64 (1 + o.dot.ep % 3))).setCell ⟨g + 1, 2, none⟩ (.int .i64 (1 + o.dot.seq % 30))).setCell ⟨g + 1, 3, none⟩ (.int .i64 (o.coll % 3))).setCell ⟨g + 1, 4, none⟩ (.int .i64 (1 + o.ver % 3))).setCell ⟨g + 1, 5, none⟩ (.int .i64 (1 + o.kind % 5))).setCell ⟨g + 1, 6, none⟩ (.string (str (goodKey o.key)))).setCell ⟨g + 1, 7, none⟩ (.string (str (goodText o.text)))).setCell ⟨g + 1, 8, none⟩ (.int .i64 6)).setCell ⟨g + 1, 9, none⟩ (.int .i64 (o.time % 50))).setCell ⟨g + 1, 10, none⟩ (.slice a2 (goodOp o).dots.length c2)) = wz at *
          clear hb9 hz9 hG b0 z0 f0 b1 z1 f1 b2 z2 f2 b3 z3 f3 b4 z4 f4 b5 z5 f5 b6 z6 f6 b7 z7 f7 b8 z8 f8 b9 z9 f9 b10 z10 f10
          have y0 := hze.cell 0 _ rfl
          have y1 := hze.cell 1 _ rfl
          have y2 := hze.cell 2 _ rfl
          have y3 := hze.cell 3 _ rfl
          have y4 := hze.cell 4 _ rfl
          have y5 := hze.cell 5 _ rfl
          have y6 := hze.cell 6 _ rfl
          have y7 := hze.cell 7 _ rfl
          have y8 := hze.cell 8 _ rfl
          have y9 := hze.cell 9 _ rfl
          have y10 := hze.cell 10 _ rfl
          refine bodyPost_ret (v := .agg #[.int .i64 (o.dot.dev % 6), .int .i64 (1 + o.dot.ep % 3), .int .i64 (1 + o.dot.seq % 30), .int .i64 (o.coll % 3), .int .i64 (1 + o.ver % 3), .int .i64 (1 + o.kind % 5), .string (str (goodKey o.key)), .string (str (goodText o.text)), .int .i64 6, .int .i64 (o.time % 50), .slice a2 (goodOp o).dots.length c2]) ?_ rfl ⟨a2, c2, ?_, hre, hce, hme, hxe, hfz⟩
          · rw [results_cell1 rfl]
            go_simp
          · unfold goodOp; simp only; rw [HN.out]
        · have e20 : ((o.n % 12 - 6) == (0 : Int)) = false := by rw [beq_eq_false_iff_ne]; exact hz0
          have HN := Lib.hid (show goodN (1 + o.kind % 5) o.n = o.n % 12 - 6 by unfold goodN; rw [if_pos H4.out, if_neg hz0])
          clear hz0 c8 g8
          have c8 := hb8.cell 8 _ rfl
          go_upto_region 24 with fail
          have hG : Blk w8 g ((goodOp o).cells a2 c2) := by
            have : ((goodOp o).cells a2 c2) = [.int .i64 (o.dot.dev % 6), .int .i64 (1 + o.dot.ep % 3), .int .i64 (1 + o.dot.seq % 30), .int .i64 (o.coll % 3), .int .i64 (1 + o.ver % 3), .int .i64 (1 + o.kind % 5), .string (str (goodKey o.key)), .string (str (goodText o.text)), .int .i64 (o.n % 12 - 6), .int .i64 (o.time % 50), .slice a2 (goodOp o).dots.length c2] := by unfold OpR.cells; rw [show (goodOp o).n = o.n % 12 - 6 from HN.out]; rfl
            rw [this]; exact hb8
          have b0 := hb8.cell 0 _ rfl
          have b1 := hb8.cell 1 _ rfl
          have b2 := hb8.cell 2 _ rfl
          have b3 := hb8.cell 3 _ rfl
          have b4 := hb8.cell 4 _ rfl
          have b5 := hb8.cell 5 _ rfl
          have b6 := hb8.cell 6 _ rfl
          have b7 := hb8.cell 7 _ rfl
          have b8 := hb8.cell 8 _ rfl
          have b9 := hb8.cell 9 _ rfl
          have b10 := hb8.cell 10 _ rfl
          have z0 := hz8.cell 0 _ rfl
          have z1 := hz8.cell 1 _ rfl
          have z2 := hz8.cell 2 _ rfl
          have z3 := hz8.cell 3 _ rfl
          have z4 := hz8.cell 4 _ rfl
          have z5 := hz8.cell 5 _ rfl
          have z6 := hz8.cell 6 _ rfl
          have z7 := hz8.cell 7 _ rfl
          have z8 := hz8.cell 8 _ rfl
          have z9 := hz8.cell 9 _ rfl
          have z10 := hz8.cell 10 _ rfl
          have f0 := hz8.fr 0
          have f1 := hz8.fr 1
          have f2 := hz8.fr 2
          have f3 := hz8.fr 3
          have f4 := hz8.fr 4
          have f5 := hz8.fr 5
          have f6 := hz8.fr 6
          have f7 := hz8.fr 7
          have f8 := hz8.fr 8
          have f9 := hz8.fr 9
          have f10 := hz8.fr 10
          have hxe : Ext no w (((((((((((w8.setCell ⟨g + 1, 0, none⟩ (.int .i64 (o.dot.dev % 6))).setCell ⟨g + 1, 1, none⟩ (.int .i64 (1 + o.dot.ep % 3))).setCell ⟨g + 1, 2, none⟩ (.int .i64 (1 + o.dot.seq % 30))).setCell ⟨g + 1, 3, none⟩ (.int .i64 (o.coll % 3))).setCell ⟨g + 1, 4, none⟩ (.int .i64 (1 + o.ver % 3))).setCell ⟨g + 1, 5, none⟩ (.int .i64 (1 + o.kind % 5))).setCell ⟨g + 1, 6, none⟩ (.string (str (goodKey o.key)))).setCell ⟨g + 1, 7, none⟩ (.string (str (goodText o.text)))).setCell ⟨g + 1, 8, none⟩ (.int .i64 (o.n % 12 - 6))).setCell ⟨g + 1, 9, none⟩ (.int .i64 (o.time % 50))).setCell ⟨g + 1, 10, none⟩ (.slice a2 (goodOp o).dots.length c2)) := (((((((((((hxw8.set1 (show w.heap.size ≤ g + 1 by omega) 0 (.int .i64 (o.dot.dev % 6))).set1 (show w.heap.size ≤ g + 1 by omega) 1 (.int .i64 (1 + o.dot.ep % 3))).set1 (show w.heap.size ≤ g + 1 by omega) 2 (.int .i64 (1 + o.dot.seq % 30))).set1 (show w.heap.size ≤ g + 1 by omega) 3 (.int .i64 (o.coll % 3))).set1 (show w.heap.size ≤ g + 1 by omega) 4 (.int .i64 (1 + o.ver % 3))).set1 (show w.heap.size ≤ g + 1 by omega) 5 (.int .i64 (1 + o.kind % 5))).set1 (show w.heap.size ≤ g + 1 by omega) 6 (.string (str (goodKey o.key)))).set1 (show w.heap.size ≤ g + 1 by omega) 7 (.string (str (goodText o.text)))).set1 (show w.heap.size ≤ g + 1 by omega) 8 (.int .i64 (o.n % 12 - 6))).set1 (show w.heap.size ≤ g + 1 by omega) 9 (.int .i64 (o.time % 50))).set1 (show w.heap.size ≤ g + 1 by omega) 10 (.slice a2 (goodOp o).dots.length c2))
          have hre : Rd (((((((((((w8.setCell ⟨g + 1, 0, none⟩ (.int .i64 (o.dot.dev % 6))).setCell ⟨g + 1, 1, none⟩ (.int .i64 (1 + o.dot.ep % 3))).setCell ⟨g + 1, 2, none⟩ (.int .i64 (1 + o.dot.seq % 30))).setCell ⟨g + 1, 3, none⟩ (.int .i64 (o.coll % 3))).setCell ⟨g + 1, 4, none⟩ (.int .i64 (1 + o.ver % 3))).setCell ⟨g + 1, 5, none⟩ (.int .i64 (1 + o.kind % 5))).setCell ⟨g + 1, 6, none⟩ (.string (str (goodKey o.key)))).setCell ⟨g + 1, 7, none⟩ (.string (str (goodText o.text)))).setCell ⟨g + 1, 8, none⟩ (.int .i64 (o.n % 12 - 6))).setCell ⟨g + 1, 9, none⟩ (.int .i64 (o.time % 50))).setCell ⟨g + 1, 10, none⟩ (.slice a2 (goodOp o).dots.length c2)) a2 (ds (goodOp o).dots) := ho8.rd.ext ((((((((((((Ext.refl (just (g + 1)) w8).comp (Ext.setCell _ ⟨g + 1, 0, none⟩ (.int .i64 (o.dot.dev % 6)) rfl)).comp (Ext.setCell _ ⟨g + 1, 1, none⟩ (.int .i64 (1 + o.dot.ep % 3)) rfl)).comp (Ext.setCell _ ⟨g + 1, 2, none⟩ (.int .i64 (1 + o.dot.seq % 30)) rfl)).comp (Ext.setCell _ ⟨g + 1, 3, none⟩ (.int .i64 (o.coll % 3)) rfl)).comp (Ext.setCell _ ⟨g + 1, 4, none⟩ (.int .i64 (1 + o.ver % 3)) rfl)).comp (Ext.setCell _ ⟨g + 1, 5, none⟩ (.int .i64 (1 + o.kind % 5)) rfl)).comp (Ext.setCell _ ⟨g + 1, 6, none⟩ (.string (str (goodKey o.key))) rfl)).comp (Ext.setCell _ ⟨g + 1, 7, none⟩ (.string (str (goodText o.text))) rfl)).comp (Ext.setCell _ ⟨g + 1, 8, none⟩ (.int .i64 (o.n % 12 - 6)) rfl)).comp (Ext.setCell _ ⟨g + 1, 9, none⟩ (.int .i64 (o.time % 50)) rfl)).comp (Ext.setCell _ ⟨g + 1, 10, none⟩ (.slice a2 (goodOp o).dots.length c2) rfl)) (fun ad h e => by have := (ho8.base ad h).1; simp only [Esc.just] at e; omega)
          have hze : Blk (((((((((((w8.setCell ⟨g + 1, 0, none⟩ (.int .i64 (o.dot.dev % 6))).setCell ⟨g + 1, 1, none⟩ (.int .i64 (1 + o.dot.ep % 3))).setCell ⟨g + 1, 2, none⟩ (.int .i64 (1 + o.dot.seq % 30))).setCell ⟨g + 1, 3, none⟩ (.int .i64 (o.coll % 3))).setCell ⟨g + 1, 4, none⟩ (.int .i64 (1 + o.ver % 3))).setCell ⟨g + 1, 5, none⟩ (.int .i64 (1 + o.kind % 5))).setCell ⟨g + 1, 6, none⟩ (.string (str (goodKey o.key)))).setCell ⟨g + 1, 7, none⟩ (.string (str (goodText o.text)))).setCell ⟨g + 1, 8, none⟩ (.int .i64 (o.n % 12 - 6))).setCell ⟨g + 1, 9, none⟩ (.int .i64 (o.time % 50))).setCell ⟨g + 1, 10, none⟩ (.slice a2 (goodOp o).dots.length c2)) (g + 1) [.int .i64 (o.dot.dev % 6), .int .i64 (1 + o.dot.ep % 3), .int .i64 (1 + o.dot.seq % 30), .int .i64 (o.coll % 3), .int .i64 (1 + o.ver % 3), .int .i64 (1 + o.kind % 5), .string (str (goodKey o.key)), .string (str (goodText o.text)), .int .i64 (o.n % 12 - 6), .int .i64 (o.time % 50), .slice a2 (goodOp o).dots.length c2] := (((((((((((hz8.set 0 (.int .i64 (o.dot.dev % 6)) (by simp)).set 1 (.int .i64 (1 + o.dot.ep % 3)) (by simp)).set 2 (.int .i64 (1 + o.dot.seq % 30)) (by simp)).set 3 (.int .i64 (o.coll % 3)) (by simp)).set 4 (.int .i64 (1 + o.ver % 3)) (by simp)).set 5 (.int .i64 (1 + o.kind % 5)) (by simp)).set 6 (.string (str (goodKey o.key))) (by simp)).set 7 (.string (str (goodText o.text))) (by simp)).set 8 (.int .i64 (o.n % 12 - 6)) (by simp)).set 9 (.int .i64 (o.time % 50)) (by simp)).set 10 (.slice a2 (goodOp o).dots.length c2) (by simp))
          have hce := ho8.nc
          have hfz : ∀ ad, a2 = some ad → w.heap.size ≤ ad.block := fun ad h => by have := (ho8.base ad h).1; omega
          have hme := ho8.cm
          go_wp2_with fail
          generalize (((((((((((w8.setCell ⟨g + 1, 0, none⟩ (.int .i64 (o.dot.dev % 6))).setCell ⟨g + 1, 1, none⟩ (.int .i64 (1 + o.dot.ep % 3))).setCell ⟨g + 1, 2, none⟩ (.int .i64 (1 + o.dot.seq % 30))).setCell ⟨g + 1, 3, none⟩ (.int .i64 (o.coll % 3))).setCell ⟨g + 1, 4, none⟩ (.int .i64 (1 + o.ver % 3))).setCell ⟨g + 1, 5, none⟩ (.int .i64 (1 + o.kind % 5))).setCell ⟨g + 1, 6, none⟩ (.string (str (goodKey o.key)))).setCell ⟨g + 1, 7, none⟩ (.string (str (goodText o.text)))).setCell ⟨g + 1, 8, none⟩ (.int .i64 (o.n % 12 - 6))).setCell ⟨g + 1, 9, none⟩ (.int .i64 (o.time % 50))).setCell ⟨g + 1, 10, none⟩ (.slice a2 (goodOp o).dots.length c2)) = wz at *
          clear hb8 hz8 hG b0 z0 f0 b1 z1 f1 b2 z2 f2 b3 z3 f3 b4 z4 f4 b5 z5 f5 b6 z6 f6 b7 z7 f7 b8 z8 f8 b9 z9 f9 b10 z10 f10
          have y0 := hze.cell 0 _ rfl
          have y1 := hze.cell 1 _ rfl
          have y2 := hze.cell 2 _ rfl
          have y3 := hze.cell 3 _ rfl
          have y4 := hze.cell 4 _ rfl
          have y5 := hze.cell 5 _ rfl
          have y6 := hze.cell 6 _ rfl
          have y7 := hze.cell 7 _ rfl
          have y8 := hze.cell 8 _ rfl
          have y9 := hze.cell 9 _ rfl
          have y10 := hze.cell 10 _ rfl
          refine bodyPost_ret (v := .agg #[.int .i64 (o.dot.dev % 6), .int .i64 (1 + o.dot.ep % 3), .int .i64 (1 + o.dot.seq % 30), .int .i64 (o.coll % 3), .int .i64 (1 + o.ver % 3), .int .i64 (1 + o.kind % 5), .string (str (goodKey o.key)), .string (str (goodText o.text)), .int .i64 (o.n % 12 - 6), .int .i64 (o.time % 50), .slice a2 (goodOp o).dots.length c2]) ?_ rfl ⟨a2, c2, ?_, hre, hce, hme, hxe, hfz⟩
          · rw [results_cell1 rfl]
            go_simp
          · unfold goodOp; simp only; rw [HN.out]
      have e4 : ((1 + o.kind % 5) == (4 : Int)) = false := by rw [beq_eq_false_iff_ne]; exact h4
      by_cases h5 : 1 + o.kind % 5 = 5
      · have e5 : ((1 + o.kind % 5) == (5 : Int)) = true := by rw [beq_iff_eq]; exact h5
        have HN := Lib.hid (show goodN (1 + o.kind % 5) o.n = o.n % 30 by unfold goodN; rw [if_neg h4, if_pos h5])
        have c5 := hb7.cell 5 _ rfl
        clear h4 h5 hK
        go_wp2_with fail
        refine (within_any o.n 30 w7 (by omega) (by omega) hok.n).mono ?_
        rintro e w8 ⟨rfl, rfl⟩
        go_upto_region 24 with fail
        have hb8 : Blk (w7.setCell ⟨g, 8, none⟩ (.int .i64 (o.n % 30))) g [.int .i64 (o.dot.dev % 6), .int .i64 (1 + o.dot.ep % 3), .int .i64 (1 + o.dot.seq % 30), .int .i64 (o.coll % 3), .int .i64 (1 + o.ver % 3), .int .i64 (1 + o.kind % 5), .string (str (goodKey o.key)), .string (str (goodText o.text)), .int .i64 (o.n % 30), .int .i64 (o.time % 50), .slice a2 (goodOp o).dots.length c2] := hb7.set 8 (.int .i64 (o.n % 30)) (by simp)
        have hz8 := hz7.other (g := g) (by omega) 8 (.int .i64 (o.n % 30))
        have hxw8 := hxw7.set1 hgw 8 (.int .i64 (o.n % 30))
        have ho8 := ho7.ext (Ext.setCell w7 ⟨g, 8, none⟩ (.int .i64 (o.n % 30)) (S := just g) rfl) (fun ad h e => by have := (ho7.base ad h).1; simp only [Esc.just] at e; omega)
        clear hb7 hz7 hxw7 ho7
        generalize w7.setCell ⟨g, 8, none⟩ (.int .i64 (o.n % 30)) = w8 at *
        clear c8 g8 c5
        have hG : Blk w8 g ((goodOp o).cells a2 c2) := by
          have : ((goodOp o).cells a2 c2) = [.int .i64 (o.dot.dev % 6), .int .i64 (1 + o.dot.ep % 3), .int .i64 (1 + o.dot.seq % 30), .int .i64 (o.coll % 3), .int .i64 (1 + o.ver % 3), .int .i64 (1 + o.kind % 5), .string (str (goodKey o.key)), .string (str (goodText o.text)), .int .i64 (o.n % 30), .int .i64 (o.time % 50), .slice a2 (goodOp o).dots.length c2] := by unfold OpR.cells; rw [show (goodOp o).n = o.n % 30 from HN.out]; rfl
          rw [this]; exact hb8
        have b0 := hb8.cell 0 _ rfl
        have b1 := hb8.cell 1 _ rfl
        have b2 := hb8.cell 2 _ rfl
        have b3 := hb8.cell 3 _ rfl
        have b4 := hb8.cell 4 _ rfl
        have b5 := hb8.cell 5 _ rfl
        have b6 := hb8.cell 6 _ rfl
        have b7 := hb8.cell 7 _ rfl
        have b8 := hb8.cell 8 _ rfl
        have b9 := hb8.cell 9 _ rfl
        have b10 := hb8.cell 10 _ rfl
        have z0 := hz8.cell 0 _ rfl
        have z1 := hz8.cell 1 _ rfl
        have z2 := hz8.cell 2 _ rfl
        have z3 := hz8.cell 3 _ rfl
        have z4 := hz8.cell 4 _ rfl
        have z5 := hz8.cell 5 _ rfl
        have z6 := hz8.cell 6 _ rfl
        have z7 := hz8.cell 7 _ rfl
        have z8 := hz8.cell 8 _ rfl
        have z9 := hz8.cell 9 _ rfl
        have z10 := hz8.cell 10 _ rfl
        have f0 := hz8.fr 0
        have f1 := hz8.fr 1
        have f2 := hz8.fr 2
        have f3 := hz8.fr 3
        have f4 := hz8.fr 4
        have f5 := hz8.fr 5
        have f6 := hz8.fr 6
        have f7 := hz8.fr 7
        have f8 := hz8.fr 8
        have f9 := hz8.fr 9
        have f10 := hz8.fr 10
        have hxe : Ext no w (((((((((((w8.setCell ⟨g + 1, 0, none⟩ (.int .i64 (o.dot.dev % 6))).setCell ⟨g + 1, 1, none⟩ (.int .i64 (1 + o.dot.ep % 3))).setCell ⟨g + 1, 2, none⟩ (.int .i64 (1 + o.dot.seq % 30))).setCell ⟨g + 1, 3, none⟩ (.int .i64 (o.coll % 3))).setCell ⟨g + 1, 4, none⟩ (.int .i64 (1 + o.ver % 3))).setCell ⟨g + 1, 5, none⟩ (.int .i64 (1 + o.kind % 5))).setCell ⟨g + 1, 6, none⟩ (.string (str (goodKey o.key)))).setCell ⟨g + 1, 7, none⟩ (.string (str (goodText o.text)))).setCell ⟨g + 1, 8, none⟩ (.int .i64 (o.n % 30))).setCell ⟨g + 1, 9, none⟩ (.int .i64 (o.time % 50))).setCell ⟨g + 1, 10, none⟩ (.slice a2 (goodOp o).dots.length c2)) := (((((((((((hxw8.set1 (show w.heap.size ≤ g + 1 by omega) 0 (.int .i64 (o.dot.dev % 6))).set1 (show w.heap.size ≤ g + 1 by omega) 1 (.int .i64 (1 + o.dot.ep % 3))).set1 (show w.heap.size ≤ g + 1 by omega) 2 (.int .i64 (1 + o.dot.seq % 30))).set1 (show w.heap.size ≤ g + 1 by omega) 3 (.int .i64 (o.coll % 3))).set1 (show w.heap.size ≤ g + 1 by omega) 4 (.int .i64 (1 + o.ver % 3))).set1 (show w.heap.size ≤ g + 1 by omega) 5 (.int .i64 (1 + o.kind % 5))).set1 (show w.heap.size ≤ g + 1 by omega) 6 (.string (str (goodKey o.key)))).set1 (show w.heap.size ≤ g + 1 by omega) 7 (.string (str (goodText o.text)))).set1 (show w.heap.size ≤ g + 1 by omega) 8 (.int .i64 (o.n % 30))).set1 (show w.heap.size ≤ g + 1 by omega) 9 (.int .i64 (o.time % 50))).set1 (show w.heap.size ≤ g + 1 by omega) 10 (.slice a2 (goodOp o).dots.length c2))
        have hre : Rd (((((((((((w8.setCell ⟨g + 1, 0, none⟩ (.int .i64 (o.dot.dev % 6))).setCell ⟨g + 1, 1, none⟩ (.int .i64 (1 + o.dot.ep % 3))).setCell ⟨g + 1, 2, none⟩ (.int .i64 (1 + o.dot.seq % 30))).setCell ⟨g + 1, 3, none⟩ (.int .i64 (o.coll % 3))).setCell ⟨g + 1, 4, none⟩ (.int .i64 (1 + o.ver % 3))).setCell ⟨g + 1, 5, none⟩ (.int .i64 (1 + o.kind % 5))).setCell ⟨g + 1, 6, none⟩ (.string (str (goodKey o.key)))).setCell ⟨g + 1, 7, none⟩ (.string (str (goodText o.text)))).setCell ⟨g + 1, 8, none⟩ (.int .i64 (o.n % 30))).setCell ⟨g + 1, 9, none⟩ (.int .i64 (o.time % 50))).setCell ⟨g + 1, 10, none⟩ (.slice a2 (goodOp o).dots.length c2)) a2 (ds (goodOp o).dots) := ho8.rd.ext ((((((((((((Ext.refl (just (g + 1)) w8).comp (Ext.setCell _ ⟨g + 1, 0, none⟩ (.int .i64 (o.dot.dev % 6)) rfl)).comp (Ext.setCell _ ⟨g + 1, 1, none⟩ (.int .i64 (1 + o.dot.ep % 3)) rfl)).comp (Ext.setCell _ ⟨g + 1, 2, none⟩ (.int .i64 (1 + o.dot.seq % 30)) rfl)).comp (Ext.setCell _ ⟨g + 1, 3, none⟩ (.int .i64 (o.coll % 3)) rfl)).comp (Ext.setCell _ ⟨g + 1, 4, none⟩ (.int .i64 (1 + o.ver % 3)) rfl)).comp (Ext.setCell _ ⟨g + 1, 5, none⟩ (.int .i64 (1 + o.kind % 5)) rfl)).comp (Ext.setCell _ ⟨g + 1, 6, none⟩ (.string (str (goodKey o.key))) rfl)).comp (Ext.setCell _ ⟨g + 1, 7, none⟩ (.string (str (goodText o.text))) rfl)).comp (Ext.setCell _ ⟨g + 1, 8, none⟩ (.int .i64 (o.n % 30)) rfl)).comp (Ext.setCell _ ⟨g + 1, 9, none⟩ (.int .i64 (o.time % 50)) rfl)).comp (Ext.setCell _ ⟨g + 1, 10, none⟩ (.slice a2 (goodOp o).dots.length c2) rfl)) (fun ad h e => by have := (ho8.base ad h).1; simp only [Esc.just] at e; omega)
        have hze : Blk (((((((((((w8.setCell ⟨g + 1, 0, none⟩ (.int .i64 (o.dot.dev % 6))).setCell ⟨g + 1, 1, none⟩ (.int .i64 (1 + o.dot.ep % 3))).setCell ⟨g + 1, 2, none⟩ (.int .i64 (1 + o.dot.seq % 30))).setCell ⟨g + 1, 3, none⟩ (.int .i64 (o.coll % 3))).setCell ⟨g + 1, 4, none⟩ (.int .i64 (1 + o.ver % 3))).setCell ⟨g + 1, 5, none⟩ (.int .i64 (1 + o.kind % 5))).setCell ⟨g + 1, 6, none⟩ (.string (str (goodKey o.key)))).setCell ⟨g + 1, 7, none⟩ (.string (str (goodText o.text)))).setCell ⟨g + 1, 8, none⟩ (.int .i64 (o.n % 30))).setCell ⟨g + 1, 9, none⟩ (.int .i64 (o.time % 50))).setCell ⟨g + 1, 10, none⟩ (.slice a2 (goodOp o).dots.length c2)) (g + 1) [.int .i64 (o.dot.dev % 6), .int .i64 (1 + o.dot.ep % 3), .int .i64 (1 + o.dot.seq % 30), .int .i64 (o.coll % 3), .int .i64 (1 + o.ver % 3), .int .i64 (1 + o.kind % 5), .string (str (goodKey o.key)), .string (str (goodText o.text)), .int .i64 (o.n % 30), .int .i64 (o.time % 50), .slice a2 (goodOp o).dots.length c2] := (((((((((((hz8.set 0 (.int .i64 (o.dot.dev % 6)) (by simp)).set 1 (.int .i64 (1 + o.dot.ep % 3)) (by simp)).set 2 (.int .i64 (1 + o.dot.seq % 30)) (by simp)).set 3 (.int .i64 (o.coll % 3)) (by simp)).set 4 (.int .i64 (1 + o.ver % 3)) (by simp)).set 5 (.int .i64 (1 + o.kind % 5)) (by simp)).set 6 (.string (str (goodKey o.key))) (by simp)).set 7 (.string (str (goodText o.text))) (by simp)).set 8 (.int .i64 (o.n % 30)) (by simp)).set 9 (.int .i64 (o.time % 50)) (by simp)).set 10 (.slice a2 (goodOp o).dots.length c2) (by simp))
        have hce := ho8.nc
        have hfz : ∀ ad, a2 = some ad → w.heap.size ≤ ad.block := fun ad h => by have := (ho8.base ad h).1; omega
        have hme := ho8.cm
        go_wp2_with fail
        generalize (((((((((((w8.setCell ⟨g + 1, 0, none⟩ (.int .i64 (o.dot.dev % 6))).setCell ⟨g + 1, 1, none⟩ (.int .i64 (1 + o.dot.ep % 3))).setCell ⟨g + 1, 2, none⟩ (.int .i64 (1 + o.dot.seq % 30))).setCell ⟨g + 1, 3, none⟩ (.int .i64 (o.coll % 3))).setCell ⟨g + 1, 4, none⟩ (.int .i64 (1 + o.ver % 3))).setCell ⟨g + 1, 5, none⟩ (.int .i64 (1 + o.kind % 5))).setCell ⟨g + 1, 6, none⟩ (.string (str (goodKey o.key)))).setCell ⟨g + 1, 7, none⟩ (.string (str (goodText o.text)))).setCell ⟨g + 1, 8, none⟩ (.int .i64 (o.n % 30))).setCell ⟨g + 1, 9, none⟩ (.int .i64 (o.time % 50))).setCell ⟨g + 1, 10, none⟩ (.slice a2 (goodOp o).dots.length c2)) = wz at *
        clear hb8 hz8 hG b0 z0 f0 b1 z1 f1 b2 z2 f2 b3 z3 f3 b4 z4 f4 b5 z5 f5 b6 z6 f6 b7 z7 f7 b8 z8 f8 b9 z9 f9 b10 z10 f10
        have y0 := hze.cell 0 _ rfl
        have y1 := hze.cell 1 _ rfl
        have y2 := hze.cell 2 _ rfl
        have y3 := hze.cell 3 _ rfl
        have y4 := hze.cell 4 _ rfl
        have y5 := hze.cell 5 _ rfl
        have y6 := hze.cell 6 _ rfl
        have y7 := hze.cell 7 _ rfl
        have y8 := hze.cell 8 _ rfl
        have y9 := hze.cell 9 _ rfl
        have y10 := hze.cell 10 _ rfl
        refine bodyPost_ret (v := .agg #[.int .i64 (o.dot.dev % 6), .int .i64 (1 + o.dot.ep % 3), .int .i64 (1 + o.dot.seq % 30), .int .i64 (o.coll % 3), .int .i64 (1 + o.ver % 3), .int .i64 (1 + o.kind % 5), .string (str (goodKey o.key)), .string (str (goodText o.text)), .int .i64 (o.n % 30), .int .i64 (o.time % 50), .slice a2 (goodOp o).dots.length c2]) ?_ rfl ⟨a2, c2, ?_, hre, hce, hme, hxe, hfz⟩
        · rw [results_cell1 rfl]
          go_simp
        · unfold goodOp; simp only; rw [HN.out]
      have e5 : ((1 + o.kind % 5) == (5 : Int)) = false := by rw [beq_eq_false_iff_ne]; exact h5
      have HN := Lib.hid (show goodN (1 + o.kind % 5) o.n = o.n by unfold goodN; rw [if_neg h4, if_neg h5])
      clear h4 h5 hK c8 g8
      have c5 := hb7.cell 5 _ rfl
      go_upto_region 24 with fail
      have hG : Blk w7 g ((goodOp o).cells a2 c2) := by
        have : ((goodOp o).cells a2 c2) = [.int .i64 (o.dot.dev % 6), .int .i64 (1 + o.dot.ep % 3), .int .i64 (1 + o.dot.seq % 30), .int .i64 (o.coll % 3), .int .i64 (1 + o.ver % 3), .int .i64 (1 + o.kind % 5), .string (str (goodKey o.key)), .string (str (goodText o.text)), .int .i64 o.n, .int .i64 (o.time % 50), .slice a2 (goodOp o).dots.length c2] := by unfold OpR.cells; rw [show (goodOp o).n = o.n from HN.out]; rfl
        rw [this]; exact hb7
      have b0 := hb7.cell 0 _ rfl
      have b1 := hb7.cell 1 _ rfl
      have b2 := hb7.cell 2 _ rfl
      have b3 := hb7.cell 3 _ rfl
      have b4 := hb7.cell 4 _ rfl
      have b5 := hb7.cell 5 _ rfl
      have b6 := hb7.cell 6 _ rfl
      have b7 := hb7.cell 7 _ rfl
      have b8 := hb7.cell 8 _ rfl
      have b9 := hb7.cell 9 _ rfl
      have b10 := hb7.cell 10 _ rfl
      have z0 := hz7.cell 0 _ rfl
      have z1 := hz7.cell 1 _ rfl
      have z2 := hz7.cell 2 _ rfl
      have z3 := hz7.cell 3 _ rfl
      have z4 := hz7.cell 4 _ rfl
      have z5 := hz7.cell 5 _ rfl
      have z6 := hz7.cell 6 _ rfl
      have z7 := hz7.cell 7 _ rfl
      have z8 := hz7.cell 8 _ rfl
      have z9 := hz7.cell 9 _ rfl
      have z10 := hz7.cell 10 _ rfl
      have f0 := hz7.fr 0
      have f1 := hz7.fr 1
      have f2 := hz7.fr 2
      have f3 := hz7.fr 3
      have f4 := hz7.fr 4
      have f5 := hz7.fr 5
      have f6 := hz7.fr 6
      have f7 := hz7.fr 7
      have f8 := hz7.fr 8
      have f9 := hz7.fr 9
      have f10 := hz7.fr 10
      have hxe : Ext no w (((((((((((w7.setCell ⟨g + 1, 0, none⟩ (.int .i64 (o.dot.dev % 6))).setCell ⟨g + 1, 1, none⟩ (.int .i64 (1 + o.dot.ep % 3))).setCell ⟨g + 1, 2, none⟩ (.int .i64 (1 + o.dot.seq % 30))).setCell ⟨g + 1, 3, none⟩ (.int .i64 (o.coll % 3))).setCell ⟨g + 1, 4, none⟩ (.int .i64 (1 + o.ver % 3))).setCell ⟨g + 1, 5, none⟩ (.int .i64 (1 + o.kind % 5))).setCell ⟨g + 1, 6, none⟩ (.string (str (goodKey o.key)))).setCell ⟨g + 1, 7, none⟩ (.string (str (goodText o.text)))).setCell ⟨g + 1, 8, none⟩ (.int .i64 o.n)).setCell ⟨g + 1, 9, none⟩ (.int .i64 (o.time % 50))).setCell ⟨g + 1, 10, none⟩ (.slice a2 (goodOp o).dots.length c2)) := (((((((((((hxw7.set1 (show w.heap.size ≤ g + 1 by omega) 0 (.int .i64 (o.dot.dev % 6))).set1 (show w.heap.size ≤ g + 1 by omega) 1 (.int .i64 (1 + o.dot.ep % 3))).set1 (show w.heap.size ≤ g + 1 by omega) 2 (.int .i64 (1 + o.dot.seq % 30))).set1 (show w.heap.size ≤ g + 1 by omega) 3 (.int .i64 (o.coll % 3))).set1 (show w.heap.size ≤ g + 1 by omega) 4 (.int .i64 (1 + o.ver % 3))).set1 (show w.heap.size ≤ g + 1 by omega) 5 (.int .i64 (1 + o.kind % 5))).set1 (show w.heap.size ≤ g + 1 by omega) 6 (.string (str (goodKey o.key)))).set1 (show w.heap.size ≤ g + 1 by omega) 7 (.string (str (goodText o.text)))).set1 (show w.heap.size ≤ g + 1 by omega) 8 (.int .i64 o.n)).set1 (show w.heap.size ≤ g + 1 by omega) 9 (.int .i64 (o.time % 50))).set1 (show w.heap.size ≤ g + 1 by omega) 10 (.slice a2 (goodOp o).dots.length c2))
      have hre : Rd (((((((((((w7.setCell ⟨g + 1, 0, none⟩ (.int .i64 (o.dot.dev % 6))).setCell ⟨g + 1, 1, none⟩ (.int .i64 (1 + o.dot.ep % 3))).setCell ⟨g + 1, 2, none⟩ (.int .i64 (1 + o.dot.seq % 30))).setCell ⟨g + 1, 3, none⟩ (.int .i64 (o.coll % 3))).setCell ⟨g + 1, 4, none⟩ (.int .i64 (1 + o.ver % 3))).setCell ⟨g + 1, 5, none⟩ (.int .i64 (1 + o.kind % 5))).setCell ⟨g + 1, 6, none⟩ (.string (str (goodKey o.key)))).setCell ⟨g + 1, 7, none⟩ (.string (str (goodText o.text)))).setCell ⟨g + 1, 8, none⟩ (.int .i64 o.n)).setCell ⟨g + 1, 9, none⟩ (.int .i64 (o.time % 50))).setCell ⟨g + 1, 10, none⟩ (.slice a2 (goodOp o).dots.length c2)) a2 (ds (goodOp o).dots) := ho7.rd.ext ((((((((((((Ext.refl (just (g + 1)) w7).comp (Ext.setCell _ ⟨g + 1, 0, none⟩ (.int .i64 (o.dot.dev % 6)) rfl)).comp (Ext.setCell _ ⟨g + 1, 1, none⟩ (.int .i64 (1 + o.dot.ep % 3)) rfl)).comp (Ext.setCell _ ⟨g + 1, 2, none⟩ (.int .i64 (1 + o.dot.seq % 30)) rfl)).comp (Ext.setCell _ ⟨g + 1, 3, none⟩ (.int .i64 (o.coll % 3)) rfl)).comp (Ext.setCell _ ⟨g + 1, 4, none⟩ (.int .i64 (1 + o.ver % 3)) rfl)).comp (Ext.setCell _ ⟨g + 1, 5, none⟩ (.int .i64 (1 + o.kind % 5)) rfl)).comp (Ext.setCell _ ⟨g + 1, 6, none⟩ (.string (str (goodKey o.key))) rfl)).comp (Ext.setCell _ ⟨g + 1, 7, none⟩ (.string (str (goodText o.text))) rfl)).comp (Ext.setCell _ ⟨g + 1, 8, none⟩ (.int .i64 o.n) rfl)).comp (Ext.setCell _ ⟨g + 1, 9, none⟩ (.int .i64 (o.time % 50)) rfl)).comp (Ext.setCell _ ⟨g + 1, 10, none⟩ (.slice a2 (goodOp o).dots.length c2) rfl)) (fun ad h e => by have := (ho7.base ad h).1; simp only [Esc.just] at e; omega)
      have hze : Blk (((((((((((w7.setCell ⟨g + 1, 0, none⟩ (.int .i64 (o.dot.dev % 6))).setCell ⟨g + 1, 1, none⟩ (.int .i64 (1 + o.dot.ep % 3))).setCell ⟨g + 1, 2, none⟩ (.int .i64 (1 + o.dot.seq % 30))).setCell ⟨g + 1, 3, none⟩ (.int .i64 (o.coll % 3))).setCell ⟨g + 1, 4, none⟩ (.int .i64 (1 + o.ver % 3))).setCell ⟨g + 1, 5, none⟩ (.int .i64 (1 + o.kind % 5))).setCell ⟨g + 1, 6, none⟩ (.string (str (goodKey o.key)))).setCell ⟨g + 1, 7, none⟩ (.string (str (goodText o.text)))).setCell ⟨g + 1, 8, none⟩ (.int .i64 o.n)).setCell ⟨g + 1, 9, none⟩ (.int .i64 (o.time % 50))).setCell ⟨g + 1, 10, none⟩ (.slice a2 (goodOp o).dots.length c2)) (g + 1) [.int .i64 (o.dot.dev % 6), .int .i64 (1 + o.dot.ep % 3), .int .i64 (1 + o.dot.seq % 30), .int .i64 (o.coll % 3), .int .i64 (1 + o.ver % 3), .int .i64 (1 + o.kind % 5), .string (str (goodKey o.key)), .string (str (goodText o.text)), .int .i64 o.n, .int .i64 (o.time % 50), .slice a2 (goodOp o).dots.length c2] := (((((((((((hz7.set 0 (.int .i64 (o.dot.dev % 6)) (by simp)).set 1 (.int .i64 (1 + o.dot.ep % 3)) (by simp)).set 2 (.int .i64 (1 + o.dot.seq % 30)) (by simp)).set 3 (.int .i64 (o.coll % 3)) (by simp)).set 4 (.int .i64 (1 + o.ver % 3)) (by simp)).set 5 (.int .i64 (1 + o.kind % 5)) (by simp)).set 6 (.string (str (goodKey o.key))) (by simp)).set 7 (.string (str (goodText o.text))) (by simp)).set 8 (.int .i64 o.n) (by simp)).set 9 (.int .i64 (o.time % 50)) (by simp)).set 10 (.slice a2 (goodOp o).dots.length c2) (by simp))
      have hce := ho7.nc
      have hfz : ∀ ad, a2 = some ad → w.heap.size ≤ ad.block := fun ad h => by have := (ho7.base ad h).1; omega
      have hme := ho7.cm
      go_wp2_with fail
      generalize (((((((((((w7.setCell ⟨g + 1, 0, none⟩ (.int .i64 (o.dot.dev % 6))).setCell ⟨g + 1, 1, none⟩ (.int .i64 (1 + o.dot.ep % 3))).setCell ⟨g + 1, 2, none⟩ (.int .i64 (1 + o.dot.seq % 30))).setCell ⟨g + 1, 3, none⟩ (.int .i64 (o.coll % 3))).setCell ⟨g + 1, 4, none⟩ (.int .i64 (1 + o.ver % 3))).setCell ⟨g + 1, 5, none⟩ (.int .i64 (1 + o.kind % 5))).setCell ⟨g + 1, 6, none⟩ (.string (str (goodKey o.key)))).setCell ⟨g + 1, 7, none⟩ (.string (str (goodText o.text)))).setCell ⟨g + 1, 8, none⟩ (.int .i64 o.n)).setCell ⟨g + 1, 9, none⟩ (.int .i64 (o.time % 50))).setCell ⟨g + 1, 10, none⟩ (.slice a2 (goodOp o).dots.length c2)) = wz at *
      clear hb7 hz7 hG b0 z0 f0 b1 z1 f1 b2 z2 f2 b3 z3 f3 b4 z4 f4 b5 z5 f5 b6 z6 f6 b7 z7 f7 b8 z8 f8 b9 z9 f9 b10 z10 f10
      have y0 := hze.cell 0 _ rfl
      have y1 := hze.cell 1 _ rfl
      have y2 := hze.cell 2 _ rfl
      have y3 := hze.cell 3 _ rfl
      have y4 := hze.cell 4 _ rfl
      have y5 := hze.cell 5 _ rfl
      have y6 := hze.cell 6 _ rfl
      have y7 := hze.cell 7 _ rfl
      have y8 := hze.cell 8 _ rfl
      have y9 := hze.cell 9 _ rfl
      have y10 := hze.cell 10 _ rfl
      refine bodyPost_ret (v := .agg #[.int .i64 (o.dot.dev % 6), .int .i64 (1 + o.dot.ep % 3), .int .i64 (1 + o.dot.seq % 30), .int .i64 (o.coll % 3), .int .i64 (1 + o.ver % 3), .int .i64 (1 + o.kind % 5), .string (str (goodKey o.key)), .string (str (goodText o.text)), .int .i64 o.n, .int .i64 (o.time % 50), .slice a2 (goodOp o).dots.length c2]) ?_ rfl ⟨a2, c2, ?_, hre, hce, hme, hxe, hfz⟩
      · rw [results_cell1 rfl]
        go_simp
      · unfold goodOp; simp only; rw [HN.out]
      -->Z
    -->D
  -->C
  -->B
  -->A
end Go.Proofs.YtejmmkjpncpedaaGreat
