/- The walks of escrowlaw5.of and of the reference's Apply. -/
import Derived.Test.YtpljcnjkdjblmaaKvS
import Derived.Test.YtpljcnjkdjblmaaKvT
import Derived.Test.YtpljcnjkdjblmaaKvZ
namespace Go.Esc
open Go.RowKit
theorem rowPut_len (l : List PairR) (c : ChangeR) : (rowPut l c).length ≤ l.length + 1 := by
  have hq : rowP l c ≤ rowQ l c := by unfold rowQ; split; split <;> omega; omega
  have hn : (newRow c).length ≤ 1 := by unfold newRow; split <;> simp
  unfold rowPut
  rw [List.length_append, List.length_append, List.length_take, List.length_drop]
  omega
theorem put_len (X : KvX) (c : ChangeR) : (X.put c).len ≤ X.len + 1 := by
  have h0 := rowPut_len X.r0 c
  have h1 := rowPut_len X.r1 c
  have h2 := rowPut_len X.r2 c
  unfold KvX.put KvX.len
  split
  · simp only; omega
  · split <;> simp only <;> omega
theorem puts_len (l : List ChangeR) : ∀ X : KvX, (X.puts l).len ≤ X.len + l.length := by
  induction l with
  | nil => intro X; exact Nat.le_refl _
  | cons c l ih =>
    intro X
    have h1 := ih (X.put c)
    have h2 := put_len X c
    show ((X.put c).puts l).len ≤ _
    rw [List.length_cons]
    omega
theorem most_of {X : KvX} {n : Nat} (h : X.len ≤ n) : X.most n := by
  unfold KvX.len at h
  exact ⟨by omega, by omega, by omega⟩
def xAp (X : KvX) (l : List ChangeR) : KvX := if xErr X l = 0 then X.puts l else X
theorem KxAt.just {w w' : World} {x y : Nat} {X : KvX} {q : Trio} (h : KxAt w x X q) (hx : Ext (Esc.just y) w w') (hn : x ≠ y) (h0 : ∀ ad, q.a0 = some ad → ad.block ≠ y) (h1 : ∀ ad, q.a1 = some ad → ad.block ≠ y) (h2 : ∀ ad, q.a2 = some ad → ad.block ≠ y) : KxAt w' x X q :=
  ⟨h.blk.ext (by simp) hx hn, kvRd_just h.r0 hx h0, kvRd_just h.r1 hx h1, kvRd_just h.r2 hx h2, h.l0, h.l1, h.l2, h.n0, h.n1, h.n2, fun ad ha => Nat.lt_of_lt_of_le (h.b0 ad ha) hx.size, fun ad ha => Nat.lt_of_lt_of_le (h.b1 ad ha) hx.size, fun ad ha => Nat.lt_of_lt_of_le (h.b2 ad ha) hx.size⟩
end Go.Esc
namespace Go.Proofs.Ytpljcnjkdjblmaa
open Go.RowKit Go.Esc
set_option linter.unusedVariables false
set_option linter.unusedSimpArgs false
theorem TRefCh : SlT Try.prog 42 90 (.agg #[.int .i64 0, .string { data := #[] }, .string { data := #[] }, .bool false]) 4 48 := ⟨Try.underlying42, by kernel_rfl, rfl, by decide⟩

set_option maxRecDepth 100000 in
set_option maxHeartbeats 8000000 in
theorem kvof_any (w : World) (la : Option Addr) (l : List ChangeR) (lc : Nat) (hr : Rd w la (rows ChangeR.cells l)) (hl : l.length ≤ 1000000) :
    Calls Try.prog 16 #[.slice la l.length lc] w fun e w' => ∃ a q, e = .returned (.slice a l.length q) ∧ Own w' w.heap.size a 4 l.length q (rows ChangeR.cells l) ∧ Ext no w w' := by
  go_enter Try.func16, Try.ntmps16
  go_wp2_with fail
  go_loopw [3, 4] (fun s3 s4 wr => ∃ (i : Nat) (a : Option Addr) (q : Nat), s3 = .slice a i q ∧ s4 = .int .i64 i ∧ i ≤ l.length ∧ Own wr w.heap.size a 4 i q (rows ChangeR.cells (l.take i)) ∧ Ext no w wr) (fun _ s4 _ => l.length - (intOf s4).toNat)
  case atStart => exact ⟨0, none, 0, rfl, rfl, Nat.zero_le _, Own.nil _ _ _, Ext.refl _ _⟩
  case round =>
    obtain ⟨i, a, q, rfl, rfl, hil, hown, hW⟩ := hrel
    by_cases hin : i < l.length
    · have d1 : decide (i < l.length) = true := decT hin
      obtain ⟨c, hc⟩ : ∃ c, l[i]? = some c := ⟨_, List.getElem?_eq_getElem hin⟩
      obtain ⟨ob, off, hsa, _⟩ := rows_shape kChange (by omega) hr (by omega)
      subst hsa
      have hrr := hr.ext hW (fun _ _ h => h)
      have HTk := Lib.hid (show l.take (i + 1) = l.take i ++ [c] by rw [List.take_succ_eq_append_getElem hin, (List.getElem?_eq_some_iff.1 hc).2])
      have Hc := Lib.hid hc
      clear hc
      go_upto_region 5 with fail
      refine wp_region_F [5, 10, 15, 20] (looks [(5, fun z => Rd z (some ⟨ob, off, none⟩) (rows ChangeR.cells l)), (10, fun z => Rd z (some ⟨ob, off, none⟩) (rows ChangeR.cells l)), (15, fun z => Rd z (some ⟨ob, off, none⟩) (rows ChangeR.cells l)), (20, fun z => Rd z (some ⟨ob, off, none⟩) (rows ChangeR.cells l))]) (by kernel_rfl) ?_
      have hxd := Ext.drew no wr
      generalize wr.drew = wd at *
      have hT0 : ∀ k, looks [(5, fun z => Rd z (some ⟨ob, off, none⟩) (rows ChangeR.cells l)), (10, fun z => Rd z (some ⟨ob, off, none⟩) (rows ChangeR.cells l)), (15, fun z => Rd z (some ⟨ob, off, none⟩) (rows ChangeR.cells l)), (20, fun z => Rd z (some ⟨ob, off, none⟩) (rows ChangeR.cells l))] k (wd) := looks_all ⟨(hrr.ext hxd (fun _ _ h => h)), (hrr.ext hxd (fun _ _ h => h)), (hrr.ext hxd (fun _ _ h => h)), (hrr.ext hxd (fun _ _ h => h)), trivial⟩
      refine wpF_take 0 (v := ?_) rfl (by kernel_rfl) (by kernel_rfl) (by kernel_rfl) (fun _ _ _ h => h) hT0 (by rfl) ?_ ?_
      rotate_left
      · (intro wq; go_simp; try with_reducible rfl)
      simp only [Act.put, List.setIfInBounds_toArray, List.set_cons_zero, List.set_cons_succ]
      refine wpF_take 1 (v := ?_) rfl (by kernel_rfl) (by kernel_rfl) (by kernel_rfl) (fun _ _ _ h => h) hT0 (by rfl) ?_ ?_
      rotate_left
      · (intro wq; go_simp; try with_reducible rfl)
      simp only [Act.put, List.setIfInBounds_toArray, List.set_cons_zero, List.set_cons_succ]
      refine wpF_take 2 (v := ?_) rfl (by kernel_rfl) (by kernel_rfl) (by kernel_rfl) (fun _ _ _ h => h) hT0 (by rfl) ?_ ?_
      rotate_left
      · (intro wq; go_simp; try with_reducible rfl)
      simp only [Act.put, List.setIfInBounds_toArray, List.set_cons_zero, List.set_cons_succ]
      refine wpF_take 3 (v := ?_) rfl (by kernel_rfl) (by kernel_rfl) (by kernel_rfl) (fun _ _ _ h => h) hT0 (by rfl) ?_ ?_
      rotate_left
      · (intro wq; go_simp; try with_reducible rfl)
      simp only [Act.put, List.setIfInBounds_toArray, List.set_cons_zero, List.set_cons_succ]
      refine wpF_take 4 (v := ?_) rfl (by kernel_rfl) (by kernel_rfl) (by kernel_rfl) (fun _ _ _ h => h) hT0 (by rfl) ?_ ?_
      rotate_left
      · (intro wq; go_simp; try with_reducible rfl)
      simp only [Act.put, List.setIfInBounds_toArray, List.set_cons_zero, List.set_cons_succ]
      refine wpF_look 5 (v := .int .i64 c.coll) rfl rfl (by kernel_rfl) (by kernel_rfl) (by kernel_rfl) (by kernel_rfl) (fun _ _ _ h => h) hT0 (by rfl) (fun w hS => by have hS : Rd w (some ⟨ob, off, none⟩) (rows ChangeR.cells l) := hS; have q : w.cell? ⟨ob, off + i * 4, none⟩ = some (.int .i64 c.coll) := rows_cell kChange hS Hc.out 0 _ rfl; go_simp) ?_
      simp only [Act.put, List.setIfInBounds_toArray, List.set_cons_zero, List.set_cons_succ]
      refine wpF_take 6 (v := ?_) rfl (by kernel_rfl) (by kernel_rfl) (by kernel_rfl) (fun _ _ _ h => h) hT0 (by rfl) ?_ ?_
      rotate_left
      · (intro wq; go_simp; try with_reducible rfl)
      simp only [Act.put, List.setIfInBounds_toArray, List.set_cons_zero, List.set_cons_succ]
      refine wpF_take 7 (v := ?_) rfl (by kernel_rfl) (by kernel_rfl) (by kernel_rfl) (fun _ _ _ h => h) hT0 (by rfl) ?_ ?_
      rotate_left
      · (intro wq; go_simp; try with_reducible rfl)
      simp only [Act.put, List.setIfInBounds_toArray, List.set_cons_zero, List.set_cons_succ]
      refine wpF_take 8 (v := ?_) rfl (by kernel_rfl) (by kernel_rfl) (by kernel_rfl) (fun _ _ _ h => h) hT0 (by rfl) ?_ ?_
      rotate_left
      · (intro wq; go_simp; try with_reducible rfl)
      simp only [Act.put, List.setIfInBounds_toArray, List.set_cons_zero, List.set_cons_succ]
      refine wpF_take 9 (v := ?_) rfl (by kernel_rfl) (by kernel_rfl) (by kernel_rfl) (fun _ _ _ h => h) hT0 (by rfl) ?_ ?_
      rotate_left
      · (intro wq; go_simp; try with_reducible rfl)
      simp only [Act.put, List.setIfInBounds_toArray, List.set_cons_zero, List.set_cons_succ]
      refine wpF_look 10 (v := .string (str c.key)) rfl rfl (by kernel_rfl) (by kernel_rfl) (by kernel_rfl) (by kernel_rfl) (fun _ _ _ h => h) hT0 (by rfl) (fun w hS => by have hS : Rd w (some ⟨ob, off, none⟩) (rows ChangeR.cells l) := hS; have q : w.cell? ⟨ob, off + i * 4 + 1, none⟩ = some (.string (str c.key)) := rows_cell kChange hS Hc.out 1 _ rfl; go_simp) ?_
      simp only [Act.put, List.setIfInBounds_toArray, List.set_cons_zero, List.set_cons_succ]
      refine wpF_take 11 (v := ?_) rfl (by kernel_rfl) (by kernel_rfl) (by kernel_rfl) (fun _ _ _ h => h) hT0 (by rfl) ?_ ?_
      rotate_left
      · (intro wq; go_simp; try with_reducible rfl)
      simp only [Act.put, List.setIfInBounds_toArray, List.set_cons_zero, List.set_cons_succ]
      refine wpF_take 12 (v := ?_) rfl (by kernel_rfl) (by kernel_rfl) (by kernel_rfl) (fun _ _ _ h => h) hT0 (by rfl) ?_ ?_
      rotate_left
      · (intro wq; go_simp; try with_reducible rfl)
      simp only [Act.put, List.setIfInBounds_toArray, List.set_cons_zero, List.set_cons_succ]
      refine wpF_take 13 (v := ?_) rfl (by kernel_rfl) (by kernel_rfl) (by kernel_rfl) (fun _ _ _ h => h) hT0 (by rfl) ?_ ?_
      rotate_left
      · (intro wq; go_simp; try with_reducible rfl)
      simp only [Act.put, List.setIfInBounds_toArray, List.set_cons_zero, List.set_cons_succ]
      refine wpF_take 14 (v := ?_) rfl (by kernel_rfl) (by kernel_rfl) (by kernel_rfl) (fun _ _ _ h => h) hT0 (by rfl) ?_ ?_
      rotate_left
      · (intro wq; go_simp; try with_reducible rfl)
      simp only [Act.put, List.setIfInBounds_toArray, List.set_cons_zero, List.set_cons_succ]
      refine wpF_look 15 (v := .string (str c.val)) rfl rfl (by kernel_rfl) (by kernel_rfl) (by kernel_rfl) (by kernel_rfl) (fun _ _ _ h => h) hT0 (by rfl) (fun w hS => by have hS : Rd w (some ⟨ob, off, none⟩) (rows ChangeR.cells l) := hS; have q : w.cell? ⟨ob, off + i * 4 + 2, none⟩ = some (.string (str c.val)) := rows_cell kChange hS Hc.out 2 _ rfl; go_simp) ?_
      simp only [Act.put, List.setIfInBounds_toArray, List.set_cons_zero, List.set_cons_succ]
      refine wpF_take 16 (v := ?_) rfl (by kernel_rfl) (by kernel_rfl) (by kernel_rfl) (fun _ _ _ h => h) hT0 (by rfl) ?_ ?_
      rotate_left
      · (intro wq; go_simp; try with_reducible rfl)
      simp only [Act.put, List.setIfInBounds_toArray, List.set_cons_zero, List.set_cons_succ]
      refine wpF_take 17 (v := ?_) rfl (by kernel_rfl) (by kernel_rfl) (by kernel_rfl) (fun _ _ _ h => h) hT0 (by rfl) ?_ ?_
      rotate_left
      · (intro wq; go_simp; try with_reducible rfl)
      simp only [Act.put, List.setIfInBounds_toArray, List.set_cons_zero, List.set_cons_succ]
      refine wpF_take 18 (v := ?_) rfl (by kernel_rfl) (by kernel_rfl) (by kernel_rfl) (fun _ _ _ h => h) hT0 (by rfl) ?_ ?_
      rotate_left
      · (intro wq; go_simp; try with_reducible rfl)
      simp only [Act.put, List.setIfInBounds_toArray, List.set_cons_zero, List.set_cons_succ]
      refine wpF_take 19 (v := ?_) rfl (by kernel_rfl) (by kernel_rfl) (by kernel_rfl) (fun _ _ _ h => h) hT0 (by rfl) ?_ ?_
      rotate_left
      · (intro wq; go_simp; try with_reducible rfl)
      simp only [Act.put, List.setIfInBounds_toArray, List.set_cons_zero, List.set_cons_succ]
      refine wpF_look 20 (v := .bool c.del) rfl rfl (by kernel_rfl) (by kernel_rfl) (by kernel_rfl) (by kernel_rfl) (fun _ _ _ h => h) hT0 (by rfl) (fun w hS => by have hS : Rd w (some ⟨ob, off, none⟩) (rows ChangeR.cells l) := hS; have q : w.cell? ⟨ob, off + i * 4 + 3, none⟩ = some (.bool c.del) := rows_cell kChange hS Hc.out 3 _ rfl; go_simp) ?_
      simp only [Act.put, List.setIfInBounds_toArray, List.set_cons_zero, List.set_cons_succ]
      refine wpF_take 21 (v := ?_) rfl (by kernel_rfl) (by kernel_rfl) (by kernel_rfl) (fun _ _ _ h => h) hT0 (by rfl) ?_ ?_
      rotate_left
      · (intro wq; go_simp; try with_reducible rfl)
      simp only [Act.put, List.setIfInBounds_toArray, List.set_cons_zero, List.set_cons_succ]
      refine wpF_exec 22 rfl (by kernel_rfl) (by rfl) ?_
      intro K hK
      go_simp
      have hX1 : Rd (wd.alloc (.cells #[.int .i64 c.coll, .string (str c.key), .string (str c.val), .bool c.del] 90)) (some ⟨wd.heap.size, 0, none⟩) (ChangeR.cells c) := Rd.lit wd #[.int .i64 c.coll, .string (str c.key), .string (str c.val), .bool c.del] _ _
      have hxa := Ext.alloc no wd (.cells #[.int .i64 c.coll, .string (str c.key), .string (str c.val), .bool c.del] 90)
      have hwz := hxd.size
      have hwz2 := hxa.size
      have hT1 : ∀ k, looks [(5, fun z => Rd z (some ⟨ob, off, none⟩) (rows ChangeR.cells l)), (10, fun z => Rd z (some ⟨ob, off, none⟩) (rows ChangeR.cells l)), (15, fun z => Rd z (some ⟨ob, off, none⟩) (rows ChangeR.cells l)), (20, fun z => Rd z (some ⟨ob, off, none⟩) (rows ChangeR.cells l))] k ((wd.alloc (.cells #[.int .i64 c.coll, .string (str c.key), .string (str c.val), .bool c.del] 90))) := looks_all ⟨((hrr.ext hxd (fun _ _ h => h)).ext hxa (fun _ _ h => h)), ((hrr.ext hxd (fun _ _ h => h)).ext hxa (fun _ _ h => h)), ((hrr.ext hxd (fun _ _ h => h)).ext hxa (fun _ _ h => h)), ((hrr.ext hxd (fun _ _ h => h)).ext hxa (fun _ _ h => h)), trivial⟩
      refine hK _ _ (looks [(5, fun z => Rd z (some ⟨ob, off, none⟩) (rows ChangeR.cells l)), (10, fun z => Rd z (some ⟨ob, off, none⟩) (rows ChangeR.cells l)), (15, fun z => Rd z (some ⟨ob, off, none⟩) (rows ChangeR.cells l)), (20, fun z => Rd z (some ⟨ob, off, none⟩) (rows ChangeR.cells l))]) ⟨.inr (.inl (by kernel_rfl)), .inr (.inl (by kernel_rfl)), .inr (.inl (by kernel_rfl)), .inr (.inl (by kernel_rfl)), trivial⟩ hT1 ?_
      clear hK K
      try simp only [Act.put, List.setIfInBounds_toArray, List.set_cons_zero, List.set_cons_succ]
      refine wpF_exec 23 rfl (by kernel_rfl) (by rfl) ?_
      intro K hK
      refine op_append (m := 1) TRefCh rfl rfl ((hown.ext hxd (fun _ _ h => h)).ext hxa (fun _ _ h => h)) rfl hX1 rfl (one1Change c) (by unfold maxLen; omega) (by omega) (by have := hW.size; omega) ?_
      intro a5 q5 w5 hp5
      have ho : Own w5 w.heap.size a5 4 (i + 1) q5 (rows ChangeR.cells (l.take (i + 1))) := by have q := hp5.own; rw [HTk.out, rows_append, rows_one]; exact q
      have hx5 : Ext no w w5 := (((hW.comp hxd).comp hxa)).trans hp5.ext (fun k hk => by rintro ⟨ad, h, hh⟩; have := (hown.base ad h).1; omega)
      have HP := Lib.hid hp5
      clear hp5
      have hT2 : ∀ k, looks [(5, fun z => Rd z (some ⟨ob, off, none⟩) (rows ChangeR.cells l)), (10, fun z => Rd z (some ⟨ob, off, none⟩) (rows ChangeR.cells l)), (15, fun z => Rd z (some ⟨ob, off, none⟩) (rows ChangeR.cells l)), (20, fun z => Rd z (some ⟨ob, off, none⟩) (rows ChangeR.cells l))] k (w5) := looks_all ⟨(hr.ext hx5 (fun _ _ h => h)), (hr.ext hx5 (fun _ _ h => h)), (hr.ext hx5 (fun _ _ h => h)), (hr.ext hx5 (fun _ _ h => h)), trivial⟩
      refine hK _ _ (looks [(5, fun z => Rd z (some ⟨ob, off, none⟩) (rows ChangeR.cells l)), (10, fun z => Rd z (some ⟨ob, off, none⟩) (rows ChangeR.cells l)), (15, fun z => Rd z (some ⟨ob, off, none⟩) (rows ChangeR.cells l)), (20, fun z => Rd z (some ⟨ob, off, none⟩) (rows ChangeR.cells l))]) ⟨.inr (.inl (by kernel_rfl)), .inr (.inl (by kernel_rfl)), .inr (.inl (by kernel_rfl)), .inr (.inl (by kernel_rfl)), trivial⟩ hT2 ?_
      clear hK K
      try simp only [Act.put, List.setIfInBounds_toArray, List.set_cons_zero, List.set_cons_succ]
      refine wpF_take 24 (v := ?_) rfl (by kernel_rfl) (by kernel_rfl) (by kernel_rfl) (fun _ _ _ h => h) hT2 (by rfl) ?_ ?_
      rotate_left
      · (intro wq; go_simp; try with_reducible rfl)
      simp only [Act.put, List.setIfInBounds_toArray, List.set_cons_zero, List.set_cons_succ]
      refine wpF_done (by kernel_rfl) ?_ _
      clear hown hW hX1 hxa hxd hrr
      go_wp2_with fail
      go_roundw
      case rel => exact ⟨i + 1, a5, q5, rfl, by go_num, by omega, ho, hx5⟩
      case measure => simp [intOf]; omega
    · have hiE : i = l.length := by omega
      subst hiE
      have d1 : decide (l.length < l.length) = false := decF (by omega)
      rw [List.take_of_length_le (Nat.le_refl _)] at hown
      go_wp2_with fail
      go_ret
      exact ⟨a, q, rfl, hown, hW⟩

set_option maxRecDepth 100000 in
set_option maxHeartbeats 8000000 in
theorem rapply_any (w : World) (x : Nat) (X : KvX) (q : Trio) (h : KxAt w x X q) (hX : X.len ≤ 1000000) (la : Option Addr) (l : List ChangeR) (lc : Nat) (hr : Rd w la (rows ChangeR.cells l)) (hlok : ∀ c ∈ l, c.ok) (hlx : ∀ ad, la = some ad → ad.block ≠ x) (hll : l.length ≤ 1000000) :
    Calls Try.prog 15 #[.pointer (some ⟨x, 0, none⟩), .slice la l.length lc] w fun e w' => e = .returned (.int .i64 (xErr X l)) ∧ ∃ q', KxAt w' x (xAp X l) q' ∧ Trio.From q q' w.heap.size ∧ Ext (just x) w w' := by
  have hxl := h.blk.lt (by simp)
  have Hlok := Lib.hid hlok
  obtain ⟨K, hK⟩ : ∃ K, K = xErr X l := ⟨_, rfl⟩
  have HK := Lib.hid hK
  have same : ∀ w', K ≠ 0 → Ext no w w' → ∃ q', KxAt w' x (xAp X l) q' ∧ Trio.From q q' w.heap.size ∧ Ext (just x) w w' := by
    intro w' hk hx
    have e : xAp X l = X := by unfold xAp; rw [if_neg (by rw [← hK]; exact hk)]
    rw [e]
    exact ⟨q, h.no hx, Trio.From.refl _ _, hx.mono (fun _ _ h => h.elim)⟩
  have Hsame := Lib.hid same
  rw [← hK]
  clear hlok hK same
  go_enter Try.func15, Try.ntmps15
  by_cases h20 : 20 < l.length
  · have d1 : decide ((20 : Int) < (l.length : Int)) = true := decT (by omega)
    have HE := Lib.hid (show K = 4 by rw [HK.out]; unfold xErr; rw [if_pos h20])
    go_wp2_with fail
    go_ret
    exact ⟨by rw [HE.out]; rfl, Hsame.out w (by rw [HE.out]; simp) (Ext.refl _ _)⟩
  have d1 : decide ((20 : Int) < (l.length : Int)) = false := decF (by omega)
  go_wp2_with fail
  go_loopw [5] (fun s5 wr => ∃ i : Nat, s5 = .int .i64 i ∧ i ≤ l.length ∧ (∀ c ∈ l.take i, chErr c = 0) ∧ Ext no w wr) (fun s5 _ => l.length - (intOf s5).toNat)
  case atStart => exact ⟨0, rfl, Nat.zero_le _, (fun c hc => by simp at hc), Ext.refl _ _⟩
  case round =>
    obtain ⟨i, rfl, hil, hgo, hW⟩ := hrel
    have Hgo := Lib.hid hgo
    clear hgo
    by_cases hin : i < l.length
    · have d2 : decide (i < l.length) = true := decT hin
      obtain ⟨c, hcm'⟩ : ∃ c, l[i]? = some c := ⟨_, List.getElem?_eq_getElem hin⟩
      have hcok := Hlok.out c (List.mem_of_getElem? hcm')
      have hck := hcok.key
      have hcv := hcok.val
      have hfe := firstErr_at l i c hcm' Hgo.out
      have htk : l.take (i + 1) = l.take i ++ [c] := by rw [List.take_succ_eq_append_getElem hin, (List.getElem?_eq_some_iff.1 hcm').2]
      have HT := Lib.hid htk
      have hbad : chErr c ≠ 0 → K = chErr c := fun hne => by
        have := hfe hne
        rw [HK.out]
        unfold xErr
        rw [if_neg h20, if_pos (by rw [this]; exact hne), this]
      have HB := Lib.hid hbad
      clear hfe htk hbad
      obtain ⟨ob, off, hsa, _⟩ := rows_shape kChange (by omega) hr (by omega)
      subst hsa
      have hrr := hr.ext hW (fun _ _ h => h)
      have y0 : wr.cell? ⟨ob, off + i * 4, none⟩ = some (.int .i64 c.coll) := rows_cell kChange hrr hcm' 0 _ rfl
      have y1 : wr.cell? ⟨ob, off + i * 4 + 1, none⟩ = some (.string (str c.key)) := rows_cell kChange hrr hcm' 1 _ rfl
      have y2 : wr.cell? ⟨ob, off + i * 4 + 2, none⟩ = some (.string (str c.val)) := rows_cell kChange hrr hcm' 2 _ rfl
      clear hrr hcm'
      by_cases g1 : c.coll < 0
      · have e1 : decide (c.coll < 0) = true := decT g1
        have hE : chErr c = 1 := by unfold chErr; rw [if_pos (.inl g1)]
        have HE := Lib.hid (show K = 1 by rw [HB.out (by rw [hE]; simp), hE])
        clear g1 hE
        go_wp2_with fail
        go_ret
        exact ⟨by rw [HE.out]; rfl, Hsame.out _ (by rw [HE.out]; simp) hW⟩
      have e1 : decide (c.coll < 0) = false := decF g1
      by_cases g2 : 3 ≤ c.coll
      · have e2 : decide (3 ≤ c.coll) = true := decT g2
        have hE : chErr c = 1 := by unfold chErr; rw [if_pos (.inr g2)]
        have HE := Lib.hid (show K = 1 by rw [HB.out (by rw [hE]; simp), hE])
        clear g1 g2 hE
        go_wp2_with fail
        go_ret
        exact ⟨by rw [HE.out]; rfl, Hsame.out _ (by rw [HE.out]; simp) hW⟩
      have e2 : decide (3 ≤ c.coll) = false := decF g2
      have h5 : ∀ q : ¬ (textOk c.key = true ∧ c.key ≠ [] ∧ textOk c.val = true), K = 5 := fun q => by
        have : chErr c = 5 := by unfold chErr; rw [if_neg (by omega), if_neg q]
        rw [HB.out (by rw [this]; simp), this]
      have H5 := Lib.hid h5
      have h0 : textOk c.key = true ∧ c.key ≠ [] ∧ textOk c.val = true → chErr c = 0 := fun q => by unfold chErr; rw [if_neg (by omega), if_pos q]
      have H0 := Lib.hid h0
      clear g1 g2 h5 h0 HB
      go_wp2_with fail
      refine (reftext_any wr c.key hck).mono ?_
      rintro e _ ⟨rfl, rfl⟩
      cases t1 : textOk c.key with
      | false =>
        have HE := Lib.hid (H5.out (by rw [t1]; simp))
        go_wp2_with fail
        go_ret
        exact ⟨by rw [HE.out]; rfl, Hsame.out _ (by rw [HE.out]; simp) hW⟩
      | true =>
        by_cases t2 : c.key = []
        · have HE := Lib.hid (H5.out (fun q => q.2.1 t2))
          have e3 : ((str c.key).toList == ([] : List UInt8)) = true := by rw [toList_str, t2]; rfl
          clear t2
          go_wp2_with fail
          go_ret
          exact ⟨by rw [HE.out]; rfl, Hsame.out _ (by rw [HE.out]; simp) hW⟩
        · have e3 : ((str c.key).toList == ([] : List UInt8)) = false := by rw [toList_str, beq_eq_false_iff_ne]; exact t2
          go_wp2_with fail
          refine (reftext_any wr c.val hcv).mono ?_
          rintro e _ ⟨rfl, rfl⟩
          cases t4 : textOk c.val with
          | false =>
            have HE := Lib.hid (H5.out (by rw [t4]; simp))
            go_wp2_with fail
            go_ret
            exact ⟨by rw [HE.out]; rfl, Hsame.out _ (by rw [HE.out]; simp) hW⟩
          | true =>
            have HZ := Lib.hid (H0.out ⟨t1, t2, t4⟩)
            have hgo' : ∀ d ∈ l.take (i + 1), chErr d = 0 := fun d hd => by
              rw [HT.out] at hd
              rcases List.mem_append.1 hd with hd | hd
              · exact Hgo.out d hd
              · rw [List.mem_singleton] at hd; rw [hd]; exact HZ.out
            have Hgo' := Lib.hid hgo'
            clear hgo' y0 y1 y2
            go_wp2_with fail
            go_roundw
            case rel => exact ⟨i + 1, by go_num, by omega, Hgo'.out, hW⟩
            case measure => simp [intOf]; omega
    · have hiE : i = l.length := by omega
      subst hiE
      have d2 : decide (l.length < l.length) = false := decF (by omega)
      have hall : ∀ c ∈ l, chErr c = 0 := fun c hc => Hgo.out c (by rw [List.take_of_length_le (Nat.le_refl _)]; exact hc)
      have hKE : K = if 300 < (X.puts l).len then 4 else 0 := by
        rw [HK.out]
        unfold xErr
        rw [if_neg h20, if_neg (by rw [(firstErr_zero l).2 hall]; simp)]
      have HKE := Lib.hid hKE
      have Hall := Lib.hid hall
      have h1 := h.no hW
      have c0 := h1.blk.cell 0 _ rfl
      have c1 := h1.blk.cell 1 _ rfl
      have c2 := h1.blk.cell 2 _ rfl
      have hlr := hr.ext hW (fun _ _ h => h)
      have hwz := hW.size
      clear hKE hall hin hil hr
      go_upto_region 11 with fail
      have hT := Blk.lit wr #[.slice q.a0 X.r0.length q.c0, .slice q.a1 X.r1.length q.c1, .slice q.a2 X.r2.length q.c2] 35
      have hxt := Ext.alloc no wr (.cells #[.slice q.a0 X.r0.length q.c0, .slice q.a1 X.r1.length q.c1, .slice q.a2 X.r2.length q.c2] 35)
      have hzt : (wr.alloc (.cells #[.slice q.a0 X.r0.length q.c0, .slice q.a1 X.r1.length q.c1, .slice q.a2 X.r2.length q.c2] 35)).heap.size = wr.heap.size + 1 := by simp
      generalize wr.alloc (.cells #[.slice q.a0 X.r0.length q.c0, .slice q.a1 X.r1.length q.c1, .slice q.a2 X.r2.length q.c2] 35) = wt at *
      obtain ⟨x2, hx2⟩ : ∃ x2, x2 = wr.heap.size := ⟨_, rfl⟩
      rw [← hx2] at hT ⊢
      have hx2a : wr.heap.size ≤ x2 := by omega
      have hx2b : x2 < wt.heap.size := by omega
      have hb0 := h1.b0
      have hb1 := h1.b1
      have hb2 := h1.b2
      have ht := h1.no hxt
      have hlt := hlr.ext hxt (fun _ _ h => h)
      have hKt : KxAt wt x2 X q := ⟨hT, ht.r0, ht.r1, ht.r2, ht.l0, ht.l1, ht.l2, (fun ad ha => by have := hb0 ad ha; omega), (fun ad ha => by have := hb1 ad ha; omega), (fun ad ha => by have := hb2 ad ha; omega), ht.b0, ht.b1, ht.b2⟩
      have hWt := hW.comp hxt
      have hll2 : ∀ ad, la = some ad → l ≠ [] → ad.block < wt.heap.size ∧ ad.block ≠ x2 := fun ad ha hne => by
        obtain ⟨ob, off, hsa, hob⟩ := rows_shape kChange (by omega) hlr (by cases l with | nil => exact absurd rfl hne | cons _ _ => simp)
        rw [ha] at hsa
        cases hsa
        simp only
        omega
      have HL2 := Lib.hid hll2
      have HKt := Lib.hid hKt
      have Hht := Lib.hid ht
      clear hx2 hT c0 c1 c2 hxt hzt hlr h1 ht hKt hll2 hb0 hb1 hb2
      go_wp2_with fail
      go_loopw [7] (fun s7 wr => ∃ (k : Nat) (q2 : Trio), s7 = .int .i64 k ∧ k ≤ l.length ∧ KxAt wr x2 (X.puts (l.take k)) q2 ∧ Trio.From q q2 w.heap.size ∧ Ext (just x2) wt wr) (fun s7 _ => l.length - (intOf s7).toNat)
      case atStart => exact ⟨0, q, rfl, Nat.zero_le _, HKt.out, Trio.From.refl _ _, Ext.refl _ _⟩
      case round =>
        clear HKt
        obtain ⟨k, q2, rfl, hkl, hK2, hFr, hX2⟩ := hrel
        have hpl := puts_len (l.take k) X
        rw [List.length_take] at hpl
        by_cases hkn : k < l.length
        · have d3 : decide (k < l.length) = true := decT hkn
          obtain ⟨c, hcm'⟩ : ∃ c, l[k]? = some c := ⟨_, List.getElem?_eq_getElem hkn⟩
          have hcc := chErr_coll (Hall.out c (List.mem_of_getElem? hcm'))
          have htk : X.puts (l.take (k + 1)) = (X.puts (l.take k)).put c := by
            rw [List.take_succ_eq_append_getElem hkn, (List.getElem?_eq_some_iff.1 hcm').2]
            unfold KvX.puts
            rw [List.foldl_append]
            rfl
          have HT := Lib.hid htk
          have HCc := Lib.hid hcc
          obtain ⟨ob, off, hsa, _⟩ := rows_shape kChange (by omega) hlt (by omega)
          subst hsa
          have hne : l ≠ [] := fun e => by rw [e] at hkn; simp at hkn
          have hrr := hlt.ext hX2 (fun ad ha e => by have := (HL2.out ad ha hne).2; have e : ad.block = x2 := e; omega)
          have y0 : wr.cell? ⟨ob, off + k * 4, none⟩ = some (.int .i64 c.coll) := rows_cell kChange hrr hcm' 0 _ rfl
          have y1 : wr.cell? ⟨ob, off + k * 4 + 1, none⟩ = some (.string (str c.key)) := rows_cell kChange hrr hcm' 1 _ rfl
          have y2 : wr.cell? ⟨ob, off + k * 4 + 2, none⟩ = some (.string (str c.val)) := rows_cell kChange hrr hcm' 2 _ rfl
          have y3 : wr.cell? ⟨ob, off + k * 4 + 3, none⟩ = some (.bool c.del) := rows_cell kChange hrr hcm' 3 _ rfl
          clear hrr hcm' hcc htk
          go_wp2_with fail
          refine (rput_any wr x2 (X.puts (l.take k)) q2 c hK2 (most_of (by omega)) HCc.out).mono ?_
          rintro e w5 ⟨rfl, q3, hK3, hF3, hx3⟩
          rw [← HT.out] at hK3
          have hwr := hX2.size
          have hF4 := hFr.trans hF3 (by omega)
          have hX5 := hX2.comp hx3
          clear hK2 hx3 hFr hF3 hX2 y0 y1 y2 y3
          go_wp2_with fail
          go_roundw
          case rel => exact ⟨k + 1, q3, by go_num, by omega, hK3, hF4, hX5⟩
          case measure => simp [intOf]; omega
        · have hkE : k = l.length := by omega
          subst hkE
          have d3 : decide (l.length < l.length) = false := decF (by omega)
          rw [List.take_of_length_le (Nat.le_refl _)] at hK2 hpl
          go_wp2_with fail
          refine (rlen_any wr x2 (X.puts l) q2 hK2 (most_of (by omega))).mono ?_
          rintro e w6 ⟨rfl, hx6⟩
          have hx26 := hX2.comp (hx6.mono (fun _ _ h => h.elim))
          have hW6 : Ext no w w6 := hWt.trans hx26 (fun k hk e => by have e : k = x2 := e; omega)
          have hK6 := hK2.no hx6
          have hx6s := hX2.size
          by_cases h300 : 300 < (X.puts l).len
          · have d4 : decide ((300 : Int) < ((X.puts l).len : Int)) = true := decT (by omega)
            have HE := Lib.hid (show K = 4 by rw [HKE.out, if_pos h300])
            go_wp2_with fail
            go_ret
            exact ⟨by rw [HE.out]; rfl, Hsame.out _ (by rw [HE.out]; simp) hW6⟩
          have d4 : decide ((300 : Int) < ((X.puts l).len : Int)) = false := decF (by omega)
          have HE := Lib.hid (show K = 0 by rw [HKE.out, if_neg h300])
          have HA := Lib.hid (show xAp X l = X.puts l by unfold xAp; rw [if_pos (by rw [← HK.out, HE.out])])
          have t0 := hK6.blk.cell 0 _ rfl
          have t1 := hK6.blk.cell 1 _ rfl
          have t2 := hK6.blk.cell 2 _ rfl
          have hb := (h.no hW6).blk
          have c0 := hb.cell 0 _ rfl
          have c1 := hb.cell 1 _ rfl
          have c2 := hb.cell 2 _ rfl
          have f0 := hb.fr 0
          have f1 := hb.fr 1
          have f2 := hb.fr 2
          have HH := Lib.hid h
          have HK6 := Lib.hid hK6
          clear h hK6 hK2 hX2 hx6 hx26 Hht
          go_wp2_with fail
          go_ret
          have hxs0 : Ext (just x) w6 (w6.setCell ⟨x, 0, none⟩ (.slice q2.a0 (X.puts l).r0.length q2.c0)) := Ext.setCell (S := just x) w6 ⟨x, 0, none⟩ _ rfl
          have hxs1 : Ext (just x) (w6.setCell ⟨x, 0, none⟩ (.slice q2.a0 (X.puts l).r0.length q2.c0)) ((w6.setCell ⟨x, 0, none⟩ (.slice q2.a0 (X.puts l).r0.length q2.c0)).setCell ⟨x, 1, none⟩ (.slice q2.a1 (X.puts l).r1.length q2.c1)) := Ext.setCell (S := just x) _ ⟨x, 1, none⟩ _ rfl
          have hxs2 : Ext (just x) ((w6.setCell ⟨x, 0, none⟩ (.slice q2.a0 (X.puts l).r0.length q2.c0)).setCell ⟨x, 1, none⟩ (.slice q2.a1 (X.puts l).r1.length q2.c1)) (((w6.setCell ⟨x, 0, none⟩ (.slice q2.a0 (X.puts l).r0.length q2.c0)).setCell ⟨x, 1, none⟩ (.slice q2.a1 (X.puts l).r1.length q2.c1)).setCell ⟨x, 2, none⟩ (.slice q2.a2 (X.puts l).r2.length q2.c2)) := Ext.setCell (S := just x) _ ⟨x, 2, none⟩ _ rfl
          have hxs := (hxs0.comp hxs1).comp hxs2
          have hbl := ((hb.set 0 (.slice q2.a0 (X.puts l).r0.length q2.c0) (by simp)).set 1 (.slice q2.a1 (X.puts l).r1.length q2.c1) (by simp)).set 2 (.slice q2.a2 (X.puts l).r2.length q2.c2) (by simp)
          have hk := HK6.out
          have hh := HH.out
          have hxw := hh.blk.lt (by simp)
          have n0 : ∀ ad, q2.a0 = some ad → ad.block ≠ x := fun ad ha => by rcases hFr.1 ad ha with h | h; exact hh.n0 ad h; omega
          have n1 : ∀ ad, q2.a1 = some ad → ad.block ≠ x := fun ad ha => by rcases hFr.2.1 ad ha with h | h; exact hh.n1 ad h; omega
          have n2 : ∀ ad, q2.a2 = some ad → ad.block ≠ x := fun ad ha => by rcases hFr.2.2 ad ha with h | h; exact hh.n2 ad h; omega
          refine ⟨by rw [HE.out]; rfl, q2, ?_, hFr, (hW6.mono (fun _ _ h => h.elim)).comp hxs⟩
          rw [HA.out]
          exact ⟨hbl, kvRd_just hk.r0 hxs n0, kvRd_just hk.r1 hxs n1, kvRd_just hk.r2 hxs n2, hk.l0, hk.l1, hk.l2, n0, n1, n2, fun ad ha => Nat.lt_of_lt_of_le (hk.b0 ad ha) hxs.size, fun ad ha => Nat.lt_of_lt_of_le (hk.b1 ad ha) hxs.size, fun ad ha => Nat.lt_of_lt_of_le (hk.b2 ad ha) hxs.size⟩
end Go.Proofs.Ytpljcnjkdjblmaa
