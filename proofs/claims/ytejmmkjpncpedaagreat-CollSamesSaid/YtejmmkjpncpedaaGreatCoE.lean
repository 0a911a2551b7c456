/- Walks of the package slices, for rows of records: Clone, Insert. -/
import Derived.Test.YtejmmkjpncpedaaGreatCoC
import Derived.Test.YtejmmkjpncpedaaGreatRowB
namespace Go.Proofs.YtejmmkjpncpedaaGreat
open Go.RowKit Go.Esc
set_option linter.unusedVariables false
set_option linter.unusedSimpArgs false
theorem TEntry : SlT Tryz.prog 25 38 (.agg #[.int .i64 0, .int .i64 0, .int .i64 0]) 3 24 := ⟨Tryz.underlying25, by kernel_rfl, rfl, by decide⟩
theorem oneEntry (l : List DotR) : ∀ u ∈ rows DotR.cells l, u.oneCell' = true := rows_one' (fun x u hu => by simp only [DotR.cells, List.mem_cons, List.not_mem_nil, or_false] at hu; rcases hu with rfl | rfl | rfl <;> rfl) l
theorem one1Entry (x : DotR) : ∀ u ∈ DotR.cells x, u.oneCell' = true := fun u hu => by simp only [DotR.cells, List.mem_cons, List.not_mem_nil, or_false] at hu; rcases hu with rfl | rfl | rfl <;> rfl
theorem kEntry (x : DotR) : (DotR.cells x).length = 3 := rfl
set_option maxHeartbeats 400000 in
theorem cloneEntry_any (w : World) (a : Option Addr) (c : Nat) (l : List DotR) (hrd : Rd w a (rows DotR.cells l)) (hl : l.length ≤ 1099511627776) :
    Calls Tryz.prog 38 #[.slice a l.length c] w fun e w' => ∃ a' c', e = .returned (.slice a' l.length c') ∧ Own w' w.heap.size a' 3 l.length c' (rows DotR.cells l) ∧ Ext no w w' := by
  have hq : ∀ (w : World) (a : Option Addr) (n c : Nat), (binOp .eql 25 (.slice a n c) (.slice none 0 0)).run Tryz.prog w = .ok (.bool a.isNone) w := fun w a n c => Lib.run_eql_slice_nil w _ _ a n c 0 0 Tryz.underlying25
  cases a with
  | none =>
    have h0 : l = [] := by
      cases l with
      | nil => rfl
      | cons x xs => obtain ⟨_, h, _⟩ := hrd 0 _ rfl; cases h
    subst h0
    go_enter Tryz.func38, Tryz.ntmps38
    go_wp2_with fail
    go_ret
    exact ⟨none, 0, rfl, Own.nil _ _ _, Ext.refl _ _⟩
  | some ad =>
    have hz : Own (w.alloc (.cells #[] 38)) w.heap.size (some ⟨w.heap.size, 0, none⟩) 3 0 0 [] := Own.fresh w _ _ _ _ _ _ _ _ (Nat.le_refl _) (by simp) (Nat.le_refl _) (Nat.zero_le _) (by simp) (by simp) (.inl (Nat.le_refl _))
    go_enter Tryz.func38, Tryz.ntmps38
    go_wp2_with (at_builtin; refine wpList_append TEntry rfl rfl rfl hz rfl (hrd.alloc _) (rows_length kEntry l) (oneEntry l) ?c1 ?c2 (by simp) ?_)
    case c1 => unfold maxLen; omega
    case c2 => omega
    intro a' c' w1 happ
    have hown := happ.own
    have hext := happ.ext
    rw [Nat.zero_add, List.nil_append] at hown
    go_wp2_with fail
    go_ret
    exact ⟨a', c', rfl, hown, Ext.ofBelow (((Below.refl _ _).alloc (Nat.le_refl _) _).trans (hz.below hext (by simp))) (Nat.le_refl _)⟩
theorem TReg : SlT Tryz.prog 26 41 (.agg #[.string { data := #[] }, .string { data := #[] }, .int .i64 0, .int .i64 0, .int .i64 0, .int .i64 0, .int .i64 0]) 7 72 := ⟨Tryz.underlying26, by kernel_rfl, rfl, by decide⟩
theorem oneReg (l : List RegR) : ∀ u ∈ rows RegR.cells l, u.oneCell' = true := rows_one' (fun x u hu => by simp only [RegR.cells, List.mem_cons, List.not_mem_nil, or_false] at hu; rcases hu with rfl | rfl | rfl | rfl | rfl | rfl | rfl <;> rfl) l
theorem one1Reg (x : RegR) : ∀ u ∈ RegR.cells x, u.oneCell' = true := fun u hu => by simp only [RegR.cells, List.mem_cons, List.not_mem_nil, or_false] at hu; rcases hu with rfl | rfl | rfl | rfl | rfl | rfl | rfl <;> rfl
theorem kReg (x : RegR) : (RegR.cells x).length = 7 := rfl
set_option maxHeartbeats 400000 in
theorem cloneReg_any (w : World) (a : Option Addr) (c : Nat) (l : List RegR) (hrd : Rd w a (rows RegR.cells l)) (hl : l.length ≤ 1099511627776) :
    Calls Tryz.prog 39 #[.slice a l.length c] w fun e w' => ∃ a' c', e = .returned (.slice a' l.length c') ∧ Own w' w.heap.size a' 7 l.length c' (rows RegR.cells l) ∧ Ext no w w' := by
  have hq : ∀ (w : World) (a : Option Addr) (n c : Nat), (binOp .eql 26 (.slice a n c) (.slice none 0 0)).run Tryz.prog w = .ok (.bool a.isNone) w := fun w a n c => Lib.run_eql_slice_nil w _ _ a n c 0 0 Tryz.underlying26
  cases a with
  | none =>
    have h0 : l = [] := by
      cases l with
      | nil => rfl
      | cons x xs => obtain ⟨_, h, _⟩ := hrd 0 _ rfl; cases h
    subst h0
    go_enter Tryz.func39, Tryz.ntmps39
    go_wp2_with fail
    go_ret
    exact ⟨none, 0, rfl, Own.nil _ _ _, Ext.refl _ _⟩
  | some ad =>
    have hz : Own (w.alloc (.cells #[] 41)) w.heap.size (some ⟨w.heap.size, 0, none⟩) 7 0 0 [] := Own.fresh w _ _ _ _ _ _ _ _ (Nat.le_refl _) (by simp) (Nat.le_refl _) (Nat.zero_le _) (by simp) (by simp) (.inl (Nat.le_refl _))
    go_enter Tryz.func39, Tryz.ntmps39
    go_wp2_with (at_builtin; refine wpList_append TReg rfl rfl rfl hz rfl (hrd.alloc _) (rows_length kReg l) (oneReg l) ?c1 ?c2 (by simp) ?_)
    case c1 => unfold maxLen; omega
    case c2 => omega
    intro a' c' w1 happ
    have hown := happ.own
    have hext := happ.ext
    rw [Nat.zero_add, List.nil_append] at hown
    go_wp2_with fail
    go_ret
    exact ⟨a', c', rfl, hown, Ext.ofBelow (((Below.refl _ _).alloc (Nat.le_refl _) _).trans (hz.below hext (by simp))) (Nat.le_refl _)⟩
theorem TElem : SlT Tryz.prog 27 61 (.agg #[.string { data := #[] }, .string { data := #[] }, .int .i64 0, .int .i64 0, .int .i64 0, .int .i64 0]) 6 64 := ⟨Tryz.underlying27, by kernel_rfl, rfl, by decide⟩
theorem oneElem (l : List ElemR) : ∀ u ∈ rows ElemR.cells l, u.oneCell' = true := rows_one' (fun x u hu => by simp only [ElemR.cells, List.mem_cons, List.not_mem_nil, or_false] at hu; rcases hu with rfl | rfl | rfl | rfl | rfl | rfl <;> rfl) l
theorem one1Elem (x : ElemR) : ∀ u ∈ ElemR.cells x, u.oneCell' = true := fun u hu => by simp only [ElemR.cells, List.mem_cons, List.not_mem_nil, or_false] at hu; rcases hu with rfl | rfl | rfl | rfl | rfl | rfl <;> rfl
theorem kElem (x : ElemR) : (ElemR.cells x).length = 6 := rfl
set_option maxHeartbeats 400000 in
theorem cloneElem_any (w : World) (a : Option Addr) (c : Nat) (l : List ElemR) (hrd : Rd w a (rows ElemR.cells l)) (hl : l.length ≤ 1099511627776) :
    Calls Tryz.prog 40 #[.slice a l.length c] w fun e w' => ∃ a' c', e = .returned (.slice a' l.length c') ∧ Own w' w.heap.size a' 6 l.length c' (rows ElemR.cells l) ∧ Ext no w w' := by
  have hq : ∀ (w : World) (a : Option Addr) (n c : Nat), (binOp .eql 27 (.slice a n c) (.slice none 0 0)).run Tryz.prog w = .ok (.bool a.isNone) w := fun w a n c => Lib.run_eql_slice_nil w _ _ a n c 0 0 Tryz.underlying27
  cases a with
  | none =>
    have h0 : l = [] := by
      cases l with
      | nil => rfl
      | cons x xs => obtain ⟨_, h, _⟩ := hrd 0 _ rfl; cases h
    subst h0
    go_enter Tryz.func40, Tryz.ntmps40
    go_wp2_with fail
    go_ret
    exact ⟨none, 0, rfl, Own.nil _ _ _, Ext.refl _ _⟩
  | some ad =>
    have hz : Own (w.alloc (.cells #[] 61)) w.heap.size (some ⟨w.heap.size, 0, none⟩) 6 0 0 [] := Own.fresh w _ _ _ _ _ _ _ _ (Nat.le_refl _) (by simp) (Nat.le_refl _) (Nat.zero_le _) (by simp) (by simp) (.inl (Nat.le_refl _))
    go_enter Tryz.func40, Tryz.ntmps40
    go_wp2_with (at_builtin; refine wpList_append TElem rfl rfl rfl hz rfl (hrd.alloc _) (rows_length kElem l) (oneElem l) ?c1 ?c2 (by simp) ?_)
    case c1 => unfold maxLen; omega
    case c2 => omega
    intro a' c' w1 happ
    have hown := happ.own
    have hext := happ.ext
    rw [Nat.zero_add, List.nil_append] at hown
    go_wp2_with fail
    go_ret
    exact ⟨a', c', rfl, hown, Ext.ofBelow (((Below.refl _ _).alloc (Nat.le_refl _) _).trans (hz.below hext (by simp))) (Nat.le_refl _)⟩
theorem TDot : SlT Tryz.prog 28 39 (.agg #[.int .i64 0, .int .i64 0, .int .i64 0]) 3 24 := ⟨Tryz.underlying28, by kernel_rfl, rfl, by decide⟩
theorem oneDot (l : List DotR) : ∀ u ∈ rows DotR.cells l, u.oneCell' = true := rows_one' (fun x u hu => by simp only [DotR.cells, List.mem_cons, List.not_mem_nil, or_false] at hu; rcases hu with rfl | rfl | rfl <;> rfl) l
theorem one1Dot (x : DotR) : ∀ u ∈ DotR.cells x, u.oneCell' = true := fun u hu => by simp only [DotR.cells, List.mem_cons, List.not_mem_nil, or_false] at hu; rcases hu with rfl | rfl | rfl <;> rfl
theorem kDot (x : DotR) : (DotR.cells x).length = 3 := rfl
set_option maxHeartbeats 400000 in
theorem cloneDot_any (w : World) (a : Option Addr) (c : Nat) (l : List DotR) (hrd : Rd w a (rows DotR.cells l)) (hl : l.length ≤ 1099511627776) :
    Calls Tryz.prog 41 #[.slice a l.length c] w fun e w' => ∃ a' c', e = .returned (.slice a' l.length c') ∧ Own w' w.heap.size a' 3 l.length c' (rows DotR.cells l) ∧ Ext no w w' := by
  have hq : ∀ (w : World) (a : Option Addr) (n c : Nat), (binOp .eql 28 (.slice a n c) (.slice none 0 0)).run Tryz.prog w = .ok (.bool a.isNone) w := fun w a n c => Lib.run_eql_slice_nil w _ _ a n c 0 0 Tryz.underlying28
  cases a with
  | none =>
    have h0 : l = [] := by
      cases l with
      | nil => rfl
      | cons x xs => obtain ⟨_, h, _⟩ := hrd 0 _ rfl; cases h
    subst h0
    go_enter Tryz.func41, Tryz.ntmps41
    go_wp2_with fail
    go_ret
    exact ⟨none, 0, rfl, Own.nil _ _ _, Ext.refl _ _⟩
  | some ad =>
    have hz : Own (w.alloc (.cells #[] 39)) w.heap.size (some ⟨w.heap.size, 0, none⟩) 3 0 0 [] := Own.fresh w _ _ _ _ _ _ _ _ (Nat.le_refl _) (by simp) (Nat.le_refl _) (Nat.zero_le _) (by simp) (by simp) (.inl (Nat.le_refl _))
    go_enter Tryz.func41, Tryz.ntmps41
    go_wp2_with (at_builtin; refine wpList_append TDot rfl rfl rfl hz rfl (hrd.alloc _) (rows_length kDot l) (oneDot l) ?c1 ?c2 (by simp) ?_)
    case c1 => unfold maxLen; omega
    case c2 => omega
    intro a' c' w1 happ
    have hown := happ.own
    have hext := happ.ext
    rw [Nat.zero_add, List.nil_append] at hown
    go_wp2_with fail
    go_ret
    exact ⟨a', c', rfl, hown, Ext.ofBelow (((Below.refl _ _).alloc (Nat.le_refl _) _).trans (hz.below hext (by simp))) (Nat.le_refl _)⟩
theorem TSum : SlT Tryz.prog 29 43 (.agg #[.string { data := #[] }, .int .i64 0]) 2 24 := ⟨Tryz.underlying29, by kernel_rfl, rfl, by decide⟩
theorem oneSum (l : List SumR) : ∀ u ∈ rows SumR.cells l, u.oneCell' = true := rows_one' (fun x u hu => by simp only [SumR.cells, List.mem_cons, List.not_mem_nil, or_false] at hu; rcases hu with rfl | rfl <;> rfl) l
theorem one1Sum (x : SumR) : ∀ u ∈ SumR.cells x, u.oneCell' = true := fun u hu => by simp only [SumR.cells, List.mem_cons, List.not_mem_nil, or_false] at hu; rcases hu with rfl | rfl <;> rfl
theorem kSum (x : SumR) : (SumR.cells x).length = 2 := rfl
set_option maxHeartbeats 400000 in
theorem cloneSum_any (w : World) (a : Option Addr) (c : Nat) (l : List SumR) (hrd : Rd w a (rows SumR.cells l)) (hl : l.length ≤ 1099511627776) :
    Calls Tryz.prog 42 #[.slice a l.length c] w fun e w' => ∃ a' c', e = .returned (.slice a' l.length c') ∧ Own w' w.heap.size a' 2 l.length c' (rows SumR.cells l) ∧ Ext no w w' := by
  have hq : ∀ (w : World) (a : Option Addr) (n c : Nat), (binOp .eql 29 (.slice a n c) (.slice none 0 0)).run Tryz.prog w = .ok (.bool a.isNone) w := fun w a n c => Lib.run_eql_slice_nil w _ _ a n c 0 0 Tryz.underlying29
  cases a with
  | none =>
    have h0 : l = [] := by
      cases l with
      | nil => rfl
      | cons x xs => obtain ⟨_, h, _⟩ := hrd 0 _ rfl; cases h
    subst h0
    go_enter Tryz.func42, Tryz.ntmps42
    go_wp2_with fail
    go_ret
    exact ⟨none, 0, rfl, Own.nil _ _ _, Ext.refl _ _⟩
  | some ad =>
    have hz : Own (w.alloc (.cells #[] 43)) w.heap.size (some ⟨w.heap.size, 0, none⟩) 2 0 0 [] := Own.fresh w _ _ _ _ _ _ _ _ (Nat.le_refl _) (by simp) (Nat.le_refl _) (Nat.zero_le _) (by simp) (by simp) (.inl (Nat.le_refl _))
    go_enter Tryz.func42, Tryz.ntmps42
    go_wp2_with (at_builtin; refine wpList_append TSum rfl rfl rfl hz rfl (hrd.alloc _) (rows_length kSum l) (oneSum l) ?c1 ?c2 (by simp) ?_)
    case c1 => unfold maxLen; omega
    case c2 => omega
    intro a' c' w1 happ
    have hown := happ.own
    have hext := happ.ext
    rw [Nat.zero_add, List.nil_append] at hown
    go_wp2_with fail
    go_ret
    exact ⟨a', c', rfl, hown, Ext.ofBelow (((Below.refl _ _).alloc (Nat.le_refl _) _).trans (hz.below hext (by simp))) (Nat.le_refl _)⟩
theorem TBind : SlT Tryz.prog 30 45 (.agg #[.int .i64 0, .string { data := #[] }, .int .i64 0, .int .i64 0, .int .i64 0, .int .i64 0]) 6 56 := ⟨Tryz.underlying30, by kernel_rfl, rfl, by decide⟩
theorem oneBind (l : List BindR) : ∀ u ∈ rows BindR.cells l, u.oneCell' = true := rows_one' (fun x u hu => by simp only [BindR.cells, List.mem_cons, List.not_mem_nil, or_false] at hu; rcases hu with rfl | rfl | rfl | rfl | rfl | rfl <;> rfl) l
theorem one1Bind (x : BindR) : ∀ u ∈ BindR.cells x, u.oneCell' = true := fun u hu => by simp only [BindR.cells, List.mem_cons, List.not_mem_nil, or_false] at hu; rcases hu with rfl | rfl | rfl | rfl | rfl | rfl <;> rfl
theorem kBind (x : BindR) : (BindR.cells x).length = 6 := rfl
set_option maxHeartbeats 400000 in
theorem cloneBind_any (w : World) (a : Option Addr) (c : Nat) (l : List BindR) (hrd : Rd w a (rows BindR.cells l)) (hl : l.length ≤ 1099511627776) :
    Calls Tryz.prog 43 #[.slice a l.length c] w fun e w' => ∃ a' c', e = .returned (.slice a' l.length c') ∧ Own w' w.heap.size a' 6 l.length c' (rows BindR.cells l) ∧ Ext no w w' := by
  have hq : ∀ (w : World) (a : Option Addr) (n c : Nat), (binOp .eql 30 (.slice a n c) (.slice none 0 0)).run Tryz.prog w = .ok (.bool a.isNone) w := fun w a n c => Lib.run_eql_slice_nil w _ _ a n c 0 0 Tryz.underlying30
  cases a with
  | none =>
    have h0 : l = [] := by
      cases l with
      | nil => rfl
      | cons x xs => obtain ⟨_, h, _⟩ := hrd 0 _ rfl; cases h
    subst h0
    go_enter Tryz.func43, Tryz.ntmps43
    go_wp2_with fail
    go_ret
    exact ⟨none, 0, rfl, Own.nil _ _ _, Ext.refl _ _⟩
  | some ad =>
    have hz : Own (w.alloc (.cells #[] 45)) w.heap.size (some ⟨w.heap.size, 0, none⟩) 6 0 0 [] := Own.fresh w _ _ _ _ _ _ _ _ (Nat.le_refl _) (by simp) (Nat.le_refl _) (Nat.zero_le _) (by simp) (by simp) (.inl (Nat.le_refl _))
    go_enter Tryz.func43, Tryz.ntmps43
    go_wp2_with (at_builtin; refine wpList_append TBind rfl rfl rfl hz rfl (hrd.alloc _) (rows_length kBind l) (oneBind l) ?c1 ?c2 (by simp) ?_)
    case c1 => unfold maxLen; omega
    case c2 => omega
    intro a' c' w1 happ
    have hown := happ.own
    have hext := happ.ext
    rw [Nat.zero_add, List.nil_append] at hown
    go_wp2_with fail
    go_ret
    exact ⟨a', c', rfl, hown, Ext.ofBelow (((Below.refl _ _).alloc (Nat.le_refl _) _).trans (hz.below hext (by simp))) (Nat.le_refl _)⟩
set_option maxRecDepth 100000 in
set_option maxHeartbeats 2000000 in
theorem insertSum_any (w : World) (B : Nat) (sa : Option Addr) (c : Nat) (l : List SumR) (n : Nat) (x : SumR) (vb vc : Nat) (hB : B ≤ w.heap.size) (ho : Own w B sa 2 l.length c (rows SumR.cells l)) (hl : l.length ≤ 1099511627775) (hn : n ≤ l.length)
    (hv : w.heap[vb]? = some (.cells #[.string (str x.key), .int .i64 x.n] 43)) (hvb : ∀ ad, sa = some ad → ad.block ≠ vb) :
    Calls Tryz.prog 62 #[.slice sa l.length c, .int .i64 n, .slice (some ⟨vb, 0, none⟩) 1 vc] w fun e w' => ∃ a' c', e = .returned (.slice a' (l.length + 1) c') ∧ Own w' B a' 2 (l.length + 1) c' (rows SumR.cells (putAt n x l)) ∧ Ext (blk sa) w w' ∧ Near sa w a' := by
  have hcm := ho.cm
  have hnc := ho.nc
  unfold maxLen at hcm
  have hc0 : ∀ w, (Instr.sliceAt 29 (.slice sa l.length c) (some (.int .i64 (n : Int))) none none).run Tryz.prog w = .ok (.slice (cutAt sa c n 2) (l.length - n) (c - n)) w := fun w => run_cut_l TSum w sa _ c .i64 n hn
  by_cases hnl : n = l.length
  · have d1 : ((n : Int) == (l.length : Int)) = true := by rw [beq_iff_eq]; omega
    have Hn := Lib.hid hnl
    clear hnl
    go_enter Tryz.func62, Tryz.ntmps62
    go_wp2_with (at_builtin; refine wpList_append TSum rfl rfl rfl ho rfl (whole_rd hv) rfl (one1Sum x) (by unfold maxLen; omega) (by omega) hB ?_)
    intro a' c' w1 happ
    have hown := happ.own
    have hext := happ.ext
    go_wp2_with fail
    go_ret
    exact ⟨a', c', rfl, by have e := ins_end (f := SumR.cells) l x; rw [← Hn.out] at e; rw [← e]; exact hown, hext, happ.near⟩
  have d1 : ((n : Int) == (l.length : Int)) = false := by rw [beq_eq_false_iff_ne]; omega
  have hnl2 : n < l.length := by omega
  clear hnl
  by_cases hroom : c < l.length + 1
  · have d2 : decide ((c : Int) < (l.length : Int) + 1) = true := decT (by omega)
    have hc1 : ∀ w, (Instr.sliceAt 29 (.slice sa l.length c) none (some (.int .i64 (n : Int))) none).run Tryz.prog w = .ok (.slice sa n c) w := fun w => run_cut_h TSum w sa _ c .i64 n (by omega)
    go_enter Tryz.func62, Tryz.ntmps62
    go_wp2_with (at_builtin; refine wpList_append_madeN TSum rfl rfl Tryz.underlying3 (ho.front n hn) (m := l.length + 1 - n) (N := l.length + 1) ?g0 rfl rfl ?g1 ?g2 ?g3 ?g4 ?g5 hB ?_)
    case g0 => omega
    case g1 => omega
    case g2 => omega
    case g3 => omega
    case g4 => unfold maxLen; omega
    case g5 => omega
    intro zs c' w1 hown hzl hx1
    have hc'1 := hown.nc
    have hc2 : ∀ w, (Instr.sliceAt 29 (.slice (some ⟨w.heap.size, 0, none⟩) (l.length + 1) c') (some (.int .i64 (n : Int))) none none).run Tryz.prog w = .ok (.slice (some ⟨w.heap.size, n * 2, none⟩) (l.length + 1 - n) (c' - n)) w := fun w => by rw [run_cut_l TSum w _ _ c' .i64 n (by omega), cutAt_some (by omega), Addr.add_lit, Nat.zero_add]
    have hsa1 : ∀ ad, sa = some ad → ¬ blk (some ⟨w.heap.size, 0, none⟩) ad.block := fun ad ha => by
      have := (ho.base ad ha).2.1
      rintro ⟨ad', h, hb⟩
      cases h
      simp only at hb
      omega
    have hvlt := whole_lt hv
    have hfresh : ∀ k, k < w.heap.size → blk (some ⟨w.heap.size, 0, none⟩) k → no k := fun k hk => by
      rintro ⟨ad', h, hb⟩
      cases h
      simp only at hb
      omega
    have hv1 := whole_ext hv hx1 (fun h => h)
    have hr1 := ho.rd.ext hx1 (fun _ _ h => h)
    obtain ⟨w2, hrunA, hown2, hx2⟩ := run_copy_ownK (P := Tryz.prog) (ty := 3) TSum hown (dp := some ⟨w.heap.size, n * 2, none⟩) (off := n) (dLen := l.length + 1 - n) (dCap := c' - n) (xa := some ⟨vb, 0, none⟩) (sl := 1) (m := 1) (cx := vc) (ys := SumR.cells x)
      (Nat.min_eq_left (by omega)) (fun _ => by rw [Addr.add_lit, Nat.zero_add]) (whole_rd hv1) rfl (one1Sum x) (by omega)
    have hr2 := hr1.ext hx2 hsa1
    obtain ⟨w3, hrun, hown3, hx3⟩ := run_copy_ownK (P := Tryz.prog) (ty := 3) TSum hown2.drew (dp := some ⟨w.heap.size, (n + 1) * 2, none⟩) (off := n + 1) (dLen := l.length - n) (dCap := c' - (n + 1)) (xa := cutAt sa c n 2) (sl := l.length - n) (m := l.length - n) (cx := c - n) (ys := (rows SumR.cells l).drop (n * 2))
      (Nat.min_self _) (fun _ => by rw [Addr.add_lit, Nat.zero_add]) (hr2.drew.cutAt c n 2 (fun e => by rw [rows_length kSum]; exact Nat.mul_le_mul_right _ (by omega)))
      (by rw [List.length_drop, rows_length kSum, Nat.mul_sub_right_distrib]) (fun u hu => oneSum l u (List.mem_of_mem_drop hu)) (by omega)
    go_upto_region 11 with fail
    refine wp_region_F [] (looks []) (by kernel_rfl) ?_
    have hT0 : ∀ k, looks [] k (w2.drew) := looks_all trivial
    refine wpF_take 0 (v := ?_) rfl (by kernel_rfl) (by kernel_rfl) (by kernel_rfl) (fun _ _ _ h => h) hT0 (by rfl) ?_ ?_
    rotate_left
    · (intro wq; go_simp; try with_reducible rfl)
    simp only [pz]
    refine wpF_take 1 (v := ?_) rfl (by kernel_rfl) (by kernel_rfl) (by kernel_rfl) (fun _ _ _ h => h) hT0 (by rfl) ?_ ?_
    rotate_left
    · (intro wq; go_simp; try with_reducible rfl)
    simp only [pz]
    refine wpF_take 2 (v := ?_) rfl (by kernel_rfl) (by kernel_rfl) (by kernel_rfl) (fun _ _ _ h => h) hT0 (by rfl) ?_ ?_
    rotate_left
    · (intro wq; go_simp; try with_reducible rfl)
    simp only [pz]
    refine wpF_take 3 (v := .int .i64 ((n : Int) + 1)) rfl (by kernel_rfl) (by kernel_rfl) (by kernel_rfl) (fun _ _ _ h => h) hT0 (by rfl) (by intro wq; go_simp; rw [IntKind.wrap_i64]; omega) ?_
    simp only [pz]
    refine wpF_take 4 (v := .slice (some ⟨w.heap.size, (n + 1) * 2, none⟩) (l.length - n) (c' - (n + 1))) rfl (by kernel_rfl) (by kernel_rfl) (by kernel_rfl) (fun _ _ _ h => h) hT0 (by rfl) (by intro wq; go_simp; rw [if_pos (by omega), if_neg (by omega)]) ?_
    simp only [pz]
    refine wpF_take 5 (v := ?_) rfl (by kernel_rfl) (by kernel_rfl) (by kernel_rfl) (fun _ _ _ h => h) hT0 (by rfl) ?_ ?_
    rotate_left
    · (intro wq; go_simp; try with_reducible rfl)
    simp only [pz]
    refine wpF_take 6 (v := ?_) rfl (by kernel_rfl) (by kernel_rfl) (by kernel_rfl) (fun _ _ _ h => h) hT0 (by rfl) ?_ ?_
    rotate_left
    · (intro wq; go_simp; try with_reducible rfl)
    simp only [pz]
    refine wpF_take 7 (v := ?_) rfl (by kernel_rfl) (by kernel_rfl) (by kernel_rfl) (fun _ _ _ h => h) hT0 (by rfl) ?_ ?_
    rotate_left
    · (intro wq; go_simp; try with_reducible rfl)
    simp only [pz]
    refine wpF_exec 8 rfl (by kernel_rfl) (by rfl) ?_
    intro K hK
    go_simp
    have hT1 : ∀ k, looks [] k (w3) := looks_all trivial
    refine hK _ _ (looks []) trivial hT1 ?_
    clear hK K
    try simp only [pz]
    refine wpF_done (by kernel_rfl) ?_ _
    go_wp2_with fail
    go_ret
    refine ⟨_, c', rfl, ?_, ?_, near_new _ _⟩
    · have e := ins_rows kSum l n x hn zs hzl
      rw [← e]
      exact hown3
    · exact (((hx1.trans hx2 hfresh).comp (Ext.drew no w2)).trans hx3 hfresh).mono (fun _ _ h => absurd h (fun h => h))
  have d2 : decide ((c : Int) < (l.length : Int) + 1) = false := decF (by omega)
  obtain ⟨ad, rfl⟩ : ∃ ad, sa = some ad := by
    obtain ⟨ad, h, _⟩ := ho.can 0 (by omega)
    exact ⟨ad, h⟩
  obtain ⟨zs, hzl, homo⟩ := ho.more (l.length + 1) (by omega) (by omega)
  have hzk : zs.length = 2 := by rw [hzl]; omega
  have hvb0 : vb ≠ ad.block := Ne.symm (hvb ad rfl)
  obtain ⟨tB, kB, hsh, hkB⟩ := ho.shapeOf (by omega)
  have hov : ∀ m c', (callFunc 88 #[.slice (some ⟨vb, 0, none⟩) 1 vc, .slice (some (ad.add ((n + 1) * 2))) m c']).run Tryz.prog w = .ok (.value (.bool false)) w := fun m c' => by
    have h1 := Lib.run_overlaps_apart (P := Tryz.prog) w 29 4 43 Tryz.underlying29 2 (fun _ => rfl) ⟨vb, 0, none⟩ (ad.add ((n + 1) * 2)) 1 vc m c' (by rw [add_block]; exact hvb0) _ tB _ kB (whole_shape hv) (by rw [add_block]; exact hsh) hkB (whole_frozen hv 0) (whole_frozen hv _)
    rw [run_callFunc_extern Tryz.func88 (by kernel_rfl) (by kernel_rfl) (by kernel_rfl) (e := Extern.SlicesOverlaps.overlaps #[29, 29] #[4]) (by kernel_rfl), h1]
    rfl
  have hcl : ∀ w (j : Nat), j ≤ n + 1 → (Instr.sliceAt 29 (.slice (some ad) (l.length + 1) c) (some (.int .i64 (j : Int))) none none).run Tryz.prog w = .ok (.slice (some (ad.add (j * 2))) (l.length + 1 - j) (c - j)) w := fun w j hj => by rw [run_cut_l TSum w _ _ c .i64 j (by omega), cutAt_some (by omega)]
  have hch : ∀ w, (Instr.sliceAt 29 (.slice (some ad) l.length c) none (some (.int .i64 ((l.length : Int) + 1))) none).run Tryz.prog w = .ok (.slice (some ad) (l.length + 1) c) w := fun w => run_cut_h TSum w _ _ c .i64 (l.length + 1) (by omega)
  have hcn := fun w => hcl w n (by omega)
  have hcm1 : ∀ w, (Instr.sliceAt 29 (.slice (some ad) (l.length + 1) c) (some (.int .i64 ((n : Int) + 1))) none none).run Tryz.prog w = .ok (.slice (some (ad.add ((n + 1) * 2))) (l.length - n) (c - (n + 1))) w := fun w => by have := hcl w (n + 1) (by omega); rw [show l.length + 1 - (n + 1) = l.length - n by omega] at this; exact this
  clear hcl
  obtain ⟨w3, hrun, hown3, hx3⟩ := run_copy_ownK (P := Tryz.prog) (ty := 3) TSum homo.drew (dp := some (ad.add ((n + 1) * 2))) (off := n + 1) (dLen := l.length - n) (dCap := c - (n + 1)) (xa := some (ad.add (n * 2))) (sl := l.length + 1 - n) (m := l.length - n) (cx := c - n) (ys := (rows SumR.cells l).drop (n * 2))
    (Nat.min_eq_right (by omega)) (fun _ => rfl) (ho.rd.drew.drop (n * 2)) (by rw [List.length_drop, rows_length kSum, Nat.mul_sub_right_distrib]) (fun u hu => oneSum l u (List.mem_of_mem_drop hu)) (by omega)
  have hv3 := whole_ext (w := w.drew) (w' := w3) hv hx3 (by rintro ⟨ad', h, hb⟩; cases h; exact hvb ad rfl hb)
  obtain ⟨w4, hrunB, hown4, hx4⟩ := run_copy_ownK (P := Tryz.prog) (ty := 3) TSum hown3 (dp := some (ad.add (n * 2))) (off := n) (dLen := l.length + 1 - n) (dCap := c - n) (xa := some ⟨vb, 0, none⟩) (sl := 1) (m := 1) (cx := vc) (ys := SumR.cells x)
    (Nat.min_eq_left (by omega)) (fun _ => rfl) (whole_rd hv3) rfl (one1Sum x) (by omega)
  go_enter Tryz.func62, Tryz.ntmps62
  go_upto_region 15 with fail
  refine wp_region_F [] (looks []) (by kernel_rfl) ?_
  have hT0 : ∀ k, looks [] k (w.drew) := looks_all trivial
  refine wpF_take 0 (v := ?_) rfl (by kernel_rfl) (by kernel_rfl) (by kernel_rfl) (fun _ _ _ h => h) hT0 (by rfl) ?_ ?_
  rotate_left
  · (intro wq; go_simp; try with_reducible rfl)
  simp only [pz]
  refine wpF_take 1 (v := ?_) rfl (by kernel_rfl) (by kernel_rfl) (by kernel_rfl) (fun _ _ _ h => h) hT0 (by rfl) ?_ ?_
  rotate_left
  · (intro wq; go_simp; try with_reducible rfl)
  simp only [pz]
  refine wpF_take 2 (v := ?_) rfl (by kernel_rfl) (by kernel_rfl) (by kernel_rfl) (fun _ _ _ h => h) hT0 (by rfl) ?_ ?_
  rotate_left
  · (intro wq; go_simp; try with_reducible rfl)
  simp only [pz]
  refine wpF_take 3 (v := .int .i64 ((n : Int) + 1)) rfl (by kernel_rfl) (by kernel_rfl) (by kernel_rfl) (fun _ _ _ h => h) hT0 (by rfl) (by intro wq; go_simp; rw [IntKind.wrap_i64]; omega) ?_
  simp only [pz]
  refine wpF_take 4 (v := .slice (some (ad.add ((n + 1) * 2))) (l.length - n) (c - (n + 1))) rfl (by kernel_rfl) (by kernel_rfl) (by kernel_rfl) (fun _ _ _ h => h) hT0 (by rfl) (by intro wq; go_simp) ?_
  simp only [pz]
  refine wpF_take 5 (v := ?_) rfl (by kernel_rfl) (by kernel_rfl) (by kernel_rfl) (fun _ _ _ h => h) hT0 (by rfl) ?_ ?_
  rotate_left
  · (intro wq; go_simp; try with_reducible rfl)
  simp only [pz]
  refine wpF_take 6 (v := ?_) rfl (by kernel_rfl) (by kernel_rfl) (by kernel_rfl) (fun _ _ _ h => h) hT0 (by rfl) ?_ ?_
  rotate_left
  · (intro wq; go_simp; try with_reducible rfl)
  simp only [pz]
  refine wpF_take 7 (v := ?_) rfl (by kernel_rfl) (by kernel_rfl) (by kernel_rfl) (fun _ _ _ h => h) hT0 (by rfl) ?_ ?_
  rotate_left
  · (intro wq; go_simp; try with_reducible rfl)
  simp only [pz]
  refine wpF_exec 8 rfl (by kernel_rfl) (by rfl) ?_
  intro K hK
  go_simp
  have hT1 : ∀ k, looks [] k (w3) := looks_all trivial
  refine hK _ _ (looks []) trivial hT1 ?_
  clear hK K
  try simp only [pz]
  refine wpF_done (by kernel_rfl) ?_ _
  go_wp2_with fail
  go_ret
  refine ⟨_, c, rfl, ?_, ?_, near_self _ _⟩
  · have e := ins_place kSum l n x hnl2 zs hzk
    rw [← e]
    exact hown4
  · exact (((Ext.drew _ w).comp hx3).comp hx4)
set_option maxRecDepth 100000 in
set_option maxHeartbeats 2000000 in
theorem insertReg_any (w : World) (B : Nat) (sa : Option Addr) (c : Nat) (l : List RegR) (n : Nat) (x : RegR) (vb vc : Nat) (hB : B ≤ w.heap.size) (ho : Own w B sa 7 l.length c (rows RegR.cells l)) (hl : l.length ≤ 1099511627775) (hn : n ≤ l.length)
    (hv : w.heap[vb]? = some (.cells #[.string (str x.key), .string (str x.text), .int .i64 x.ver, .int .i64 x.time, .int .i64 x.dot.dev, .int .i64 x.dot.ep, .int .i64 x.dot.seq] 41)) (hvb : ∀ ad, sa = some ad → ad.block ≠ vb) :
    Calls Tryz.prog 50 #[.slice sa l.length c, .int .i64 n, .slice (some ⟨vb, 0, none⟩) 1 vc] w fun e w' => ∃ a' c', e = .returned (.slice a' (l.length + 1) c') ∧ Own w' B a' 7 (l.length + 1) c' (rows RegR.cells (putAt n x l)) ∧ Ext (blk sa) w w' ∧ Near sa w a' := by
  have hcm := ho.cm
  have hnc := ho.nc
  unfold maxLen at hcm
  have hc0 : ∀ w, (Instr.sliceAt 26 (.slice sa l.length c) (some (.int .i64 (n : Int))) none none).run Tryz.prog w = .ok (.slice (cutAt sa c n 7) (l.length - n) (c - n)) w := fun w => run_cut_l TReg w sa _ c .i64 n hn
  by_cases hnl : n = l.length
  · have d1 : ((n : Int) == (l.length : Int)) = true := by rw [beq_iff_eq]; omega
    have Hn := Lib.hid hnl
    clear hnl
    go_enter Tryz.func50, Tryz.ntmps50
    go_wp2_with (at_builtin; refine wpList_append TReg rfl rfl rfl ho rfl (whole_rd hv) rfl (one1Reg x) (by unfold maxLen; omega) (by omega) hB ?_)
    intro a' c' w1 happ
    have hown := happ.own
    have hext := happ.ext
    go_wp2_with fail
    go_ret
    exact ⟨a', c', rfl, by have e := ins_end (f := RegR.cells) l x; rw [← Hn.out] at e; rw [← e]; exact hown, hext, happ.near⟩
  have d1 : ((n : Int) == (l.length : Int)) = false := by rw [beq_eq_false_iff_ne]; omega
  have hnl2 : n < l.length := by omega
  clear hnl
  by_cases hroom : c < l.length + 1
  · have d2 : decide ((c : Int) < (l.length : Int) + 1) = true := decT (by omega)
    have hc1 : ∀ w, (Instr.sliceAt 26 (.slice sa l.length c) none (some (.int .i64 (n : Int))) none).run Tryz.prog w = .ok (.slice sa n c) w := fun w => run_cut_h TReg w sa _ c .i64 n (by omega)
    go_enter Tryz.func50, Tryz.ntmps50
    go_wp2_with (at_builtin; refine wpList_append_madeN TReg rfl rfl Tryz.underlying3 (ho.front n hn) (m := l.length + 1 - n) (N := l.length + 1) ?g0 rfl rfl ?g1 ?g2 ?g3 ?g4 ?g5 hB ?_)
    case g0 => omega
    case g1 => omega
    case g2 => omega
    case g3 => omega
    case g4 => unfold maxLen; omega
    case g5 => omega
    intro zs c' w1 hown hzl hx1
    have hc'1 := hown.nc
    have hc2 : ∀ w, (Instr.sliceAt 26 (.slice (some ⟨w.heap.size, 0, none⟩) (l.length + 1) c') (some (.int .i64 (n : Int))) none none).run Tryz.prog w = .ok (.slice (some ⟨w.heap.size, n * 7, none⟩) (l.length + 1 - n) (c' - n)) w := fun w => by rw [run_cut_l TReg w _ _ c' .i64 n (by omega), cutAt_some (by omega), Addr.add_lit, Nat.zero_add]
    have hsa1 : ∀ ad, sa = some ad → ¬ blk (some ⟨w.heap.size, 0, none⟩) ad.block := fun ad ha => by
      have := (ho.base ad ha).2.1
      rintro ⟨ad', h, hb⟩
      cases h
      simp only at hb
      omega
    have hvlt := whole_lt hv
    have hfresh : ∀ k, k < w.heap.size → blk (some ⟨w.heap.size, 0, none⟩) k → no k := fun k hk => by
      rintro ⟨ad', h, hb⟩
      cases h
      simp only at hb
      omega
    have hv1 := whole_ext hv hx1 (fun h => h)
    have hr1 := ho.rd.ext hx1 (fun _ _ h => h)
    obtain ⟨w2, hrunA, hown2, hx2⟩ := run_copy_ownK (P := Tryz.prog) (ty := 3) TReg hown (dp := some ⟨w.heap.size, n * 7, none⟩) (off := n) (dLen := l.length + 1 - n) (dCap := c' - n) (xa := some ⟨vb, 0, none⟩) (sl := 1) (m := 1) (cx := vc) (ys := RegR.cells x)
      (Nat.min_eq_left (by omega)) (fun _ => by rw [Addr.add_lit, Nat.zero_add]) (whole_rd hv1) rfl (one1Reg x) (by omega)
    have hr2 := hr1.ext hx2 hsa1
    obtain ⟨w3, hrun, hown3, hx3⟩ := run_copy_ownK (P := Tryz.prog) (ty := 3) TReg hown2.drew (dp := some ⟨w.heap.size, (n + 1) * 7, none⟩) (off := n + 1) (dLen := l.length - n) (dCap := c' - (n + 1)) (xa := cutAt sa c n 7) (sl := l.length - n) (m := l.length - n) (cx := c - n) (ys := (rows RegR.cells l).drop (n * 7))
      (Nat.min_self _) (fun _ => by rw [Addr.add_lit, Nat.zero_add]) (hr2.drew.cutAt c n 7 (fun e => by rw [rows_length kReg]; exact Nat.mul_le_mul_right _ (by omega)))
      (by rw [List.length_drop, rows_length kReg, Nat.mul_sub_right_distrib]) (fun u hu => oneReg l u (List.mem_of_mem_drop hu)) (by omega)
    go_upto_region 11 with fail
    refine wp_region_F [] (looks []) (by kernel_rfl) ?_
    have hT0 : ∀ k, looks [] k (w2.drew) := looks_all trivial
    refine wpF_take 0 (v := ?_) rfl (by kernel_rfl) (by kernel_rfl) (by kernel_rfl) (fun _ _ _ h => h) hT0 (by rfl) ?_ ?_
    rotate_left
    · (intro wq; go_simp; try with_reducible rfl)
    simp only [pz]
    refine wpF_take 1 (v := ?_) rfl (by kernel_rfl) (by kernel_rfl) (by kernel_rfl) (fun _ _ _ h => h) hT0 (by rfl) ?_ ?_
    rotate_left
    · (intro wq; go_simp; try with_reducible rfl)
    simp only [pz]
    refine wpF_take 2 (v := ?_) rfl (by kernel_rfl) (by kernel_rfl) (by kernel_rfl) (fun _ _ _ h => h) hT0 (by rfl) ?_ ?_
    rotate_left
    · (intro wq; go_simp; try with_reducible rfl)
    simp only [pz]
    refine wpF_take 3 (v := .int .i64 ((n : Int) + 1)) rfl (by kernel_rfl) (by kernel_rfl) (by kernel_rfl) (fun _ _ _ h => h) hT0 (by rfl) (by intro wq; go_simp; rw [IntKind.wrap_i64]; omega) ?_
    simp only [pz]
    refine wpF_take 4 (v := .slice (some ⟨w.heap.size, (n + 1) * 7, none⟩) (l.length - n) (c' - (n + 1))) rfl (by kernel_rfl) (by kernel_rfl) (by kernel_rfl) (fun _ _ _ h => h) hT0 (by rfl) (by intro wq; go_simp; rw [if_pos (by omega), if_neg (by omega)]) ?_
    simp only [pz]
    refine wpF_take 5 (v := ?_) rfl (by kernel_rfl) (by kernel_rfl) (by kernel_rfl) (fun _ _ _ h => h) hT0 (by rfl) ?_ ?_
    rotate_left
    · (intro wq; go_simp; try with_reducible rfl)
    simp only [pz]
    refine wpF_take 6 (v := ?_) rfl (by kernel_rfl) (by kernel_rfl) (by kernel_rfl) (fun _ _ _ h => h) hT0 (by rfl) ?_ ?_
    rotate_left
    · (intro wq; go_simp; try with_reducible rfl)
    simp only [pz]
    refine wpF_take 7 (v := ?_) rfl (by kernel_rfl) (by kernel_rfl) (by kernel_rfl) (fun _ _ _ h => h) hT0 (by rfl) ?_ ?_
    rotate_left
    · (intro wq; go_simp; try with_reducible rfl)
    simp only [pz]
    refine wpF_exec 8 rfl (by kernel_rfl) (by rfl) ?_
    intro K hK
    go_simp
    have hT1 : ∀ k, looks [] k (w3) := looks_all trivial
    refine hK _ _ (looks []) trivial hT1 ?_
    clear hK K
    try simp only [pz]
    refine wpF_done (by kernel_rfl) ?_ _
    go_wp2_with fail
    go_ret
    refine ⟨_, c', rfl, ?_, ?_, near_new _ _⟩
    · have e := ins_rows kReg l n x hn zs hzl
      rw [← e]
      exact hown3
    · exact (((hx1.trans hx2 hfresh).comp (Ext.drew no w2)).trans hx3 hfresh).mono (fun _ _ h => absurd h (fun h => h))
  have d2 : decide ((c : Int) < (l.length : Int) + 1) = false := decF (by omega)
  obtain ⟨ad, rfl⟩ : ∃ ad, sa = some ad := by
    obtain ⟨ad, h, _⟩ := ho.can 0 (by omega)
    exact ⟨ad, h⟩
  obtain ⟨zs, hzl, homo⟩ := ho.more (l.length + 1) (by omega) (by omega)
  have hzk : zs.length = 7 := by rw [hzl]; omega
  have hvb0 : vb ≠ ad.block := Ne.symm (hvb ad rfl)
  obtain ⟨tB, kB, hsh, hkB⟩ := ho.shapeOf (by omega)
  have hov : ∀ m c', (callFunc 75 #[.slice (some ⟨vb, 0, none⟩) 1 vc, .slice (some (ad.add ((n + 1) * 7))) m c']).run Tryz.prog w = .ok (.value (.bool false)) w := fun m c' => by
    have h1 := Lib.run_overlaps_apart (P := Tryz.prog) w 26 4 41 Tryz.underlying26 7 (fun _ => rfl) ⟨vb, 0, none⟩ (ad.add ((n + 1) * 7)) 1 vc m c' (by rw [add_block]; exact hvb0) _ tB _ kB (whole_shape hv) (by rw [add_block]; exact hsh) hkB (whole_frozen hv 0) (whole_frozen hv _)
    rw [run_callFunc_extern Tryz.func75 (by kernel_rfl) (by kernel_rfl) (by kernel_rfl) (e := Extern.SlicesOverlaps.overlaps #[26, 26] #[4]) (by kernel_rfl), h1]
    rfl
  have hcl : ∀ w (j : Nat), j ≤ n + 1 → (Instr.sliceAt 26 (.slice (some ad) (l.length + 1) c) (some (.int .i64 (j : Int))) none none).run Tryz.prog w = .ok (.slice (some (ad.add (j * 7))) (l.length + 1 - j) (c - j)) w := fun w j hj => by rw [run_cut_l TReg w _ _ c .i64 j (by omega), cutAt_some (by omega)]
  have hch : ∀ w, (Instr.sliceAt 26 (.slice (some ad) l.length c) none (some (.int .i64 ((l.length : Int) + 1))) none).run Tryz.prog w = .ok (.slice (some ad) (l.length + 1) c) w := fun w => run_cut_h TReg w _ _ c .i64 (l.length + 1) (by omega)
  have hcn := fun w => hcl w n (by omega)
  have hcm1 : ∀ w, (Instr.sliceAt 26 (.slice (some ad) (l.length + 1) c) (some (.int .i64 ((n : Int) + 1))) none none).run Tryz.prog w = .ok (.slice (some (ad.add ((n + 1) * 7))) (l.length - n) (c - (n + 1))) w := fun w => by have := hcl w (n + 1) (by omega); rw [show l.length + 1 - (n + 1) = l.length - n by omega] at this; exact this
  clear hcl
  obtain ⟨w3, hrun, hown3, hx3⟩ := run_copy_ownK (P := Tryz.prog) (ty := 3) TReg homo.drew (dp := some (ad.add ((n + 1) * 7))) (off := n + 1) (dLen := l.length - n) (dCap := c - (n + 1)) (xa := some (ad.add (n * 7))) (sl := l.length + 1 - n) (m := l.length - n) (cx := c - n) (ys := (rows RegR.cells l).drop (n * 7))
    (Nat.min_eq_right (by omega)) (fun _ => rfl) (ho.rd.drew.drop (n * 7)) (by rw [List.length_drop, rows_length kReg, Nat.mul_sub_right_distrib]) (fun u hu => oneReg l u (List.mem_of_mem_drop hu)) (by omega)
  have hv3 := whole_ext (w := w.drew) (w' := w3) hv hx3 (by rintro ⟨ad', h, hb⟩; cases h; exact hvb ad rfl hb)
  obtain ⟨w4, hrunB, hown4, hx4⟩ := run_copy_ownK (P := Tryz.prog) (ty := 3) TReg hown3 (dp := some (ad.add (n * 7))) (off := n) (dLen := l.length + 1 - n) (dCap := c - n) (xa := some ⟨vb, 0, none⟩) (sl := 1) (m := 1) (cx := vc) (ys := RegR.cells x)
    (Nat.min_eq_left (by omega)) (fun _ => rfl) (whole_rd hv3) rfl (one1Reg x) (by omega)
  go_enter Tryz.func50, Tryz.ntmps50
  go_upto_region 15 with fail
  refine wp_region_F [] (looks []) (by kernel_rfl) ?_
  have hT0 : ∀ k, looks [] k (w.drew) := looks_all trivial
  refine wpF_take 0 (v := ?_) rfl (by kernel_rfl) (by kernel_rfl) (by kernel_rfl) (fun _ _ _ h => h) hT0 (by rfl) ?_ ?_
  rotate_left
  · (intro wq; go_simp; try with_reducible rfl)
  simp only [pz]
  refine wpF_take 1 (v := ?_) rfl (by kernel_rfl) (by kernel_rfl) (by kernel_rfl) (fun _ _ _ h => h) hT0 (by rfl) ?_ ?_
  rotate_left
  · (intro wq; go_simp; try with_reducible rfl)
  simp only [pz]
  refine wpF_take 2 (v := ?_) rfl (by kernel_rfl) (by kernel_rfl) (by kernel_rfl) (fun _ _ _ h => h) hT0 (by rfl) ?_ ?_
  rotate_left
  · (intro wq; go_simp; try with_reducible rfl)
  simp only [pz]
  refine wpF_take 3 (v := .int .i64 ((n : Int) + 1)) rfl (by kernel_rfl) (by kernel_rfl) (by kernel_rfl) (fun _ _ _ h => h) hT0 (by rfl) (by intro wq; go_simp; rw [IntKind.wrap_i64]; omega) ?_
  simp only [pz]
  refine wpF_take 4 (v := .slice (some (ad.add ((n + 1) * 7))) (l.length - n) (c - (n + 1))) rfl (by kernel_rfl) (by kernel_rfl) (by kernel_rfl) (fun _ _ _ h => h) hT0 (by rfl) (by intro wq; go_simp) ?_
  simp only [pz]
  refine wpF_take 5 (v := ?_) rfl (by kernel_rfl) (by kernel_rfl) (by kernel_rfl) (fun _ _ _ h => h) hT0 (by rfl) ?_ ?_
  rotate_left
  · (intro wq; go_simp; try with_reducible rfl)
  simp only [pz]
  refine wpF_take 6 (v := ?_) rfl (by kernel_rfl) (by kernel_rfl) (by kernel_rfl) (fun _ _ _ h => h) hT0 (by rfl) ?_ ?_
  rotate_left
  · (intro wq; go_simp; try with_reducible rfl)
  simp only [pz]
  refine wpF_take 7 (v := ?_) rfl (by kernel_rfl) (by kernel_rfl) (by kernel_rfl) (fun _ _ _ h => h) hT0 (by rfl) ?_ ?_
  rotate_left
  · (intro wq; go_simp; try with_reducible rfl)
  simp only [pz]
  refine wpF_exec 8 rfl (by kernel_rfl) (by rfl) ?_
  intro K hK
  go_simp
  have hT1 : ∀ k, looks [] k (w3) := looks_all trivial
  refine hK _ _ (looks []) trivial hT1 ?_
  clear hK K
  try simp only [pz]
  refine wpF_done (by kernel_rfl) ?_ _
  go_wp2_with fail
  go_ret
  refine ⟨_, c, rfl, ?_, ?_, near_self _ _⟩
  · have e := ins_place kReg l n x hnl2 zs hzk
    rw [← e]
    exact hown4
  · exact (((Ext.drew _ w).comp hx3).comp hx4)
set_option maxRecDepth 100000 in
set_option maxHeartbeats 2000000 in
theorem insertElem_any (w : World) (B : Nat) (sa : Option Addr) (c : Nat) (l : List ElemR) (n : Nat) (x : ElemR) (vb vc : Nat) (hB : B ≤ w.heap.size) (ho : Own w B sa 6 l.length c (rows ElemR.cells l)) (hl : l.length ≤ 1099511627775) (hn : n ≤ l.length)
    (hv : w.heap[vb]? = some (.cells #[.string (str x.key), .string (str x.text), .int .i64 x.ver, .int .i64 x.dot.dev, .int .i64 x.dot.ep, .int .i64 x.dot.seq] 61)) (hvb : ∀ ad, sa = some ad → ad.block ≠ vb) :
    Calls Tryz.prog 57 #[.slice sa l.length c, .int .i64 n, .slice (some ⟨vb, 0, none⟩) 1 vc] w fun e w' => ∃ a' c', e = .returned (.slice a' (l.length + 1) c') ∧ Own w' B a' 6 (l.length + 1) c' (rows ElemR.cells (putAt n x l)) ∧ Ext (blk sa) w w' ∧ Near sa w a' := by
  have hcm := ho.cm
  have hnc := ho.nc
  unfold maxLen at hcm
  have hc0 : ∀ w, (Instr.sliceAt 27 (.slice sa l.length c) (some (.int .i64 (n : Int))) none none).run Tryz.prog w = .ok (.slice (cutAt sa c n 6) (l.length - n) (c - n)) w := fun w => run_cut_l TElem w sa _ c .i64 n hn
  by_cases hnl : n = l.length
  · have d1 : ((n : Int) == (l.length : Int)) = true := by rw [beq_iff_eq]; omega
    have Hn := Lib.hid hnl
    clear hnl
    go_enter Tryz.func57, Tryz.ntmps57
    go_wp2_with (at_builtin; refine wpList_append TElem rfl rfl rfl ho rfl (whole_rd hv) rfl (one1Elem x) (by unfold maxLen; omega) (by omega) hB ?_)
    intro a' c' w1 happ
    have hown := happ.own
    have hext := happ.ext
    go_wp2_with fail
    go_ret
    exact ⟨a', c', rfl, by have e := ins_end (f := ElemR.cells) l x; rw [← Hn.out] at e; rw [← e]; exact hown, hext, happ.near⟩
  have d1 : ((n : Int) == (l.length : Int)) = false := by rw [beq_eq_false_iff_ne]; omega
  have hnl2 : n < l.length := by omega
  clear hnl
  by_cases hroom : c < l.length + 1
  · have d2 : decide ((c : Int) < (l.length : Int) + 1) = true := decT (by omega)
    have hc1 : ∀ w, (Instr.sliceAt 27 (.slice sa l.length c) none (some (.int .i64 (n : Int))) none).run Tryz.prog w = .ok (.slice sa n c) w := fun w => run_cut_h TElem w sa _ c .i64 n (by omega)
    go_enter Tryz.func57, Tryz.ntmps57
    go_wp2_with (at_builtin; refine wpList_append_madeN TElem rfl rfl Tryz.underlying3 (ho.front n hn) (m := l.length + 1 - n) (N := l.length + 1) ?g0 rfl rfl ?g1 ?g2 ?g3 ?g4 ?g5 hB ?_)
    case g0 => omega
    case g1 => omega
    case g2 => omega
    case g3 => omega
    case g4 => unfold maxLen; omega
    case g5 => omega
    intro zs c' w1 hown hzl hx1
    have hc'1 := hown.nc
    have hc2 : ∀ w, (Instr.sliceAt 27 (.slice (some ⟨w.heap.size, 0, none⟩) (l.length + 1) c') (some (.int .i64 (n : Int))) none none).run Tryz.prog w = .ok (.slice (some ⟨w.heap.size, n * 6, none⟩) (l.length + 1 - n) (c' - n)) w := fun w => by rw [run_cut_l TElem w _ _ c' .i64 n (by omega), cutAt_some (by omega), Addr.add_lit, Nat.zero_add]
    have hsa1 : ∀ ad, sa = some ad → ¬ blk (some ⟨w.heap.size, 0, none⟩) ad.block := fun ad ha => by
      have := (ho.base ad ha).2.1
      rintro ⟨ad', h, hb⟩
      cases h
      simp only at hb
      omega
    have hvlt := whole_lt hv
    have hfresh : ∀ k, k < w.heap.size → blk (some ⟨w.heap.size, 0, none⟩) k → no k := fun k hk => by
      rintro ⟨ad', h, hb⟩
      cases h
      simp only at hb
      omega
    have hv1 := whole_ext hv hx1 (fun h => h)
    have hr1 := ho.rd.ext hx1 (fun _ _ h => h)
    obtain ⟨w2, hrunA, hown2, hx2⟩ := run_copy_ownK (P := Tryz.prog) (ty := 3) TElem hown (dp := some ⟨w.heap.size, n * 6, none⟩) (off := n) (dLen := l.length + 1 - n) (dCap := c' - n) (xa := some ⟨vb, 0, none⟩) (sl := 1) (m := 1) (cx := vc) (ys := ElemR.cells x)
      (Nat.min_eq_left (by omega)) (fun _ => by rw [Addr.add_lit, Nat.zero_add]) (whole_rd hv1) rfl (one1Elem x) (by omega)
    have hr2 := hr1.ext hx2 hsa1
    obtain ⟨w3, hrun, hown3, hx3⟩ := run_copy_ownK (P := Tryz.prog) (ty := 3) TElem hown2.drew (dp := some ⟨w.heap.size, (n + 1) * 6, none⟩) (off := n + 1) (dLen := l.length - n) (dCap := c' - (n + 1)) (xa := cutAt sa c n 6) (sl := l.length - n) (m := l.length - n) (cx := c - n) (ys := (rows ElemR.cells l).drop (n * 6))
      (Nat.min_self _) (fun _ => by rw [Addr.add_lit, Nat.zero_add]) (hr2.drew.cutAt c n 6 (fun e => by rw [rows_length kElem]; exact Nat.mul_le_mul_right _ (by omega)))
      (by rw [List.length_drop, rows_length kElem, Nat.mul_sub_right_distrib]) (fun u hu => oneElem l u (List.mem_of_mem_drop hu)) (by omega)
    go_upto_region 11 with fail
    refine wp_region_F [] (looks []) (by kernel_rfl) ?_
    have hT0 : ∀ k, looks [] k (w2.drew) := looks_all trivial
    refine wpF_take 0 (v := ?_) rfl (by kernel_rfl) (by kernel_rfl) (by kernel_rfl) (fun _ _ _ h => h) hT0 (by rfl) ?_ ?_
    rotate_left
    · (intro wq; go_simp; try with_reducible rfl)
    simp only [pz]
    refine wpF_take 1 (v := ?_) rfl (by kernel_rfl) (by kernel_rfl) (by kernel_rfl) (fun _ _ _ h => h) hT0 (by rfl) ?_ ?_
    rotate_left
    · (intro wq; go_simp; try with_reducible rfl)
    simp only [pz]
    refine wpF_take 2 (v := ?_) rfl (by kernel_rfl) (by kernel_rfl) (by kernel_rfl) (fun _ _ _ h => h) hT0 (by rfl) ?_ ?_
    rotate_left
    · (intro wq; go_simp; try with_reducible rfl)
    simp only [pz]
    refine wpF_take 3 (v := .int .i64 ((n : Int) + 1)) rfl (by kernel_rfl) (by kernel_rfl) (by kernel_rfl) (fun _ _ _ h => h) hT0 (by rfl) (by intro wq; go_simp; rw [IntKind.wrap_i64]; omega) ?_
    simp only [pz]
    refine wpF_take 4 (v := .slice (some ⟨w.heap.size, (n + 1) * 6, none⟩) (l.length - n) (c' - (n + 1))) rfl (by kernel_rfl) (by kernel_rfl) (by kernel_rfl) (fun _ _ _ h => h) hT0 (by rfl) (by intro wq; go_simp; rw [if_pos (by omega), if_neg (by omega)]) ?_
    simp only [pz]
    refine wpF_take 5 (v := ?_) rfl (by kernel_rfl) (by kernel_rfl) (by kernel_rfl) (fun _ _ _ h => h) hT0 (by rfl) ?_ ?_
    rotate_left
    · (intro wq; go_simp; try with_reducible rfl)
    simp only [pz]
    refine wpF_take 6 (v := ?_) rfl (by kernel_rfl) (by kernel_rfl) (by kernel_rfl) (fun _ _ _ h => h) hT0 (by rfl) ?_ ?_
    rotate_left
    · (intro wq; go_simp; try with_reducible rfl)
    simp only [pz]
    refine wpF_take 7 (v := ?_) rfl (by kernel_rfl) (by kernel_rfl) (by kernel_rfl) (fun _ _ _ h => h) hT0 (by rfl) ?_ ?_
    rotate_left
    · (intro wq; go_simp; try with_reducible rfl)
    simp only [pz]
    refine wpF_exec 8 rfl (by kernel_rfl) (by rfl) ?_
    intro K hK
    go_simp
    have hT1 : ∀ k, looks [] k (w3) := looks_all trivial
    refine hK _ _ (looks []) trivial hT1 ?_
    clear hK K
    try simp only [pz]
    refine wpF_done (by kernel_rfl) ?_ _
    go_wp2_with fail
    go_ret
    refine ⟨_, c', rfl, ?_, ?_, near_new _ _⟩
    · have e := ins_rows kElem l n x hn zs hzl
      rw [← e]
      exact hown3
    · exact (((hx1.trans hx2 hfresh).comp (Ext.drew no w2)).trans hx3 hfresh).mono (fun _ _ h => absurd h (fun h => h))
  have d2 : decide ((c : Int) < (l.length : Int) + 1) = false := decF (by omega)
  obtain ⟨ad, rfl⟩ : ∃ ad, sa = some ad := by
    obtain ⟨ad, h, _⟩ := ho.can 0 (by omega)
    exact ⟨ad, h⟩
  obtain ⟨zs, hzl, homo⟩ := ho.more (l.length + 1) (by omega) (by omega)
  have hzk : zs.length = 6 := by rw [hzl]; omega
  have hvb0 : vb ≠ ad.block := Ne.symm (hvb ad rfl)
  obtain ⟨tB, kB, hsh, hkB⟩ := ho.shapeOf (by omega)
  have hov : ∀ m c', (callFunc 81 #[.slice (some ⟨vb, 0, none⟩) 1 vc, .slice (some (ad.add ((n + 1) * 6))) m c']).run Tryz.prog w = .ok (.value (.bool false)) w := fun m c' => by
    have h1 := Lib.run_overlaps_apart (P := Tryz.prog) w 27 4 61 Tryz.underlying27 6 (fun _ => rfl) ⟨vb, 0, none⟩ (ad.add ((n + 1) * 6)) 1 vc m c' (by rw [add_block]; exact hvb0) _ tB _ kB (whole_shape hv) (by rw [add_block]; exact hsh) hkB (whole_frozen hv 0) (whole_frozen hv _)
    rw [run_callFunc_extern Tryz.func81 (by kernel_rfl) (by kernel_rfl) (by kernel_rfl) (e := Extern.SlicesOverlaps.overlaps #[27, 27] #[4]) (by kernel_rfl), h1]
    rfl
  have hcl : ∀ w (j : Nat), j ≤ n + 1 → (Instr.sliceAt 27 (.slice (some ad) (l.length + 1) c) (some (.int .i64 (j : Int))) none none).run Tryz.prog w = .ok (.slice (some (ad.add (j * 6))) (l.length + 1 - j) (c - j)) w := fun w j hj => by rw [run_cut_l TElem w _ _ c .i64 j (by omega), cutAt_some (by omega)]
  have hch : ∀ w, (Instr.sliceAt 27 (.slice (some ad) l.length c) none (some (.int .i64 ((l.length : Int) + 1))) none).run Tryz.prog w = .ok (.slice (some ad) (l.length + 1) c) w := fun w => run_cut_h TElem w _ _ c .i64 (l.length + 1) (by omega)
  have hcn := fun w => hcl w n (by omega)
  have hcm1 : ∀ w, (Instr.sliceAt 27 (.slice (some ad) (l.length + 1) c) (some (.int .i64 ((n : Int) + 1))) none none).run Tryz.prog w = .ok (.slice (some (ad.add ((n + 1) * 6))) (l.length - n) (c - (n + 1))) w := fun w => by have := hcl w (n + 1) (by omega); rw [show l.length + 1 - (n + 1) = l.length - n by omega] at this; exact this
  clear hcl
  obtain ⟨w3, hrun, hown3, hx3⟩ := run_copy_ownK (P := Tryz.prog) (ty := 3) TElem homo.drew (dp := some (ad.add ((n + 1) * 6))) (off := n + 1) (dLen := l.length - n) (dCap := c - (n + 1)) (xa := some (ad.add (n * 6))) (sl := l.length + 1 - n) (m := l.length - n) (cx := c - n) (ys := (rows ElemR.cells l).drop (n * 6))
    (Nat.min_eq_right (by omega)) (fun _ => rfl) (ho.rd.drew.drop (n * 6)) (by rw [List.length_drop, rows_length kElem, Nat.mul_sub_right_distrib]) (fun u hu => oneElem l u (List.mem_of_mem_drop hu)) (by omega)
  have hv3 := whole_ext (w := w.drew) (w' := w3) hv hx3 (by rintro ⟨ad', h, hb⟩; cases h; exact hvb ad rfl hb)
  obtain ⟨w4, hrunB, hown4, hx4⟩ := run_copy_ownK (P := Tryz.prog) (ty := 3) TElem hown3 (dp := some (ad.add (n * 6))) (off := n) (dLen := l.length + 1 - n) (dCap := c - n) (xa := some ⟨vb, 0, none⟩) (sl := 1) (m := 1) (cx := vc) (ys := ElemR.cells x)
    (Nat.min_eq_left (by omega)) (fun _ => rfl) (whole_rd hv3) rfl (one1Elem x) (by omega)
  go_enter Tryz.func57, Tryz.ntmps57
  go_upto_region 15 with fail
  refine wp_region_F [] (looks []) (by kernel_rfl) ?_
  have hT0 : ∀ k, looks [] k (w.drew) := looks_all trivial
  refine wpF_take 0 (v := ?_) rfl (by kernel_rfl) (by kernel_rfl) (by kernel_rfl) (fun _ _ _ h => h) hT0 (by rfl) ?_ ?_
  rotate_left
  · (intro wq; go_simp; try with_reducible rfl)
  simp only [pz]
  refine wpF_take 1 (v := ?_) rfl (by kernel_rfl) (by kernel_rfl) (by kernel_rfl) (fun _ _ _ h => h) hT0 (by rfl) ?_ ?_
  rotate_left
  · (intro wq; go_simp; try with_reducible rfl)
  simp only [pz]
  refine wpF_take 2 (v := ?_) rfl (by kernel_rfl) (by kernel_rfl) (by kernel_rfl) (fun _ _ _ h => h) hT0 (by rfl) ?_ ?_
  rotate_left
  · (intro wq; go_simp; try with_reducible rfl)
  simp only [pz]
  refine wpF_take 3 (v := .int .i64 ((n : Int) + 1)) rfl (by kernel_rfl) (by kernel_rfl) (by kernel_rfl) (fun _ _ _ h => h) hT0 (by rfl) (by intro wq; go_simp; rw [IntKind.wrap_i64]; omega) ?_
  simp only [pz]
  refine wpF_take 4 (v := .slice (some (ad.add ((n + 1) * 6))) (l.length - n) (c - (n + 1))) rfl (by kernel_rfl) (by kernel_rfl) (by kernel_rfl) (fun _ _ _ h => h) hT0 (by rfl) (by intro wq; go_simp) ?_
  simp only [pz]
  refine wpF_take 5 (v := ?_) rfl (by kernel_rfl) (by kernel_rfl) (by kernel_rfl) (fun _ _ _ h => h) hT0 (by rfl) ?_ ?_
  rotate_left
  · (intro wq; go_simp; try with_reducible rfl)
  simp only [pz]
  refine wpF_take 6 (v := ?_) rfl (by kernel_rfl) (by kernel_rfl) (by kernel_rfl) (fun _ _ _ h => h) hT0 (by rfl) ?_ ?_
  rotate_left
  · (intro wq; go_simp; try with_reducible rfl)
  simp only [pz]
  refine wpF_take 7 (v := ?_) rfl (by kernel_rfl) (by kernel_rfl) (by kernel_rfl) (fun _ _ _ h => h) hT0 (by rfl) ?_ ?_
  rotate_left
  · (intro wq; go_simp; try with_reducible rfl)
  simp only [pz]
  refine wpF_exec 8 rfl (by kernel_rfl) (by rfl) ?_
  intro K hK
  go_simp
  have hT1 : ∀ k, looks [] k (w3) := looks_all trivial
  refine hK _ _ (looks []) trivial hT1 ?_
  clear hK K
  try simp only [pz]
  refine wpF_done (by kernel_rfl) ?_ _
  go_wp2_with fail
  go_ret
  refine ⟨_, c, rfl, ?_, ?_, near_self _ _⟩
  · have e := ins_place kElem l n x hnl2 zs hzk
    rw [← e]
    exact hown4
  · exact (((Ext.drew _ w).comp hx3).comp hx4)
set_option maxRecDepth 100000 in
set_option maxHeartbeats 2000000 in
theorem insertDot_any (w : World) (B : Nat) (sa : Option Addr) (c : Nat) (l : List DotR) (n : Nat) (x : DotR) (vb vc : Nat) (hB : B ≤ w.heap.size) (ho : Own w B sa 3 l.length c (rows DotR.cells l)) (hl : l.length ≤ 1099511627775) (hn : n ≤ l.length)
    (hv : w.heap[vb]? = some (.cells #[.int .i64 x.dev, .int .i64 x.ep, .int .i64 x.seq] 39)) (hvb : ∀ ad, sa = some ad → ad.block ≠ vb) :
    Calls Tryz.prog 58 #[.slice sa l.length c, .int .i64 n, .slice (some ⟨vb, 0, none⟩) 1 vc] w fun e w' => ∃ a' c', e = .returned (.slice a' (l.length + 1) c') ∧ Own w' B a' 3 (l.length + 1) c' (rows DotR.cells (putAt n x l)) ∧ Ext (blk sa) w w' ∧ Near sa w a' := by
  have hcm := ho.cm
  have hnc := ho.nc
  unfold maxLen at hcm
  have hc0 : ∀ w, (Instr.sliceAt 28 (.slice sa l.length c) (some (.int .i64 (n : Int))) none none).run Tryz.prog w = .ok (.slice (cutAt sa c n 3) (l.length - n) (c - n)) w := fun w => run_cut_l TDot w sa _ c .i64 n hn
  by_cases hnl : n = l.length
  · have d1 : ((n : Int) == (l.length : Int)) = true := by rw [beq_iff_eq]; omega
    have Hn := Lib.hid hnl
    clear hnl
    go_enter Tryz.func58, Tryz.ntmps58
    go_wp2_with (at_builtin; refine wpList_append TDot rfl rfl rfl ho rfl (whole_rd hv) rfl (one1Dot x) (by unfold maxLen; omega) (by omega) hB ?_)
    intro a' c' w1 happ
    have hown := happ.own
    have hext := happ.ext
    go_wp2_with fail
    go_ret
    exact ⟨a', c', rfl, by have e := ins_end (f := DotR.cells) l x; rw [← Hn.out] at e; rw [← e]; exact hown, hext, happ.near⟩
  have d1 : ((n : Int) == (l.length : Int)) = false := by rw [beq_eq_false_iff_ne]; omega
  have hnl2 : n < l.length := by omega
  clear hnl
  by_cases hroom : c < l.length + 1
  · have d2 : decide ((c : Int) < (l.length : Int) + 1) = true := decT (by omega)
    have hc1 : ∀ w, (Instr.sliceAt 28 (.slice sa l.length c) none (some (.int .i64 (n : Int))) none).run Tryz.prog w = .ok (.slice sa n c) w := fun w => run_cut_h TDot w sa _ c .i64 n (by omega)
    go_enter Tryz.func58, Tryz.ntmps58
    go_wp2_with (at_builtin; refine wpList_append_madeN TDot rfl rfl Tryz.underlying3 (ho.front n hn) (m := l.length + 1 - n) (N := l.length + 1) ?g0 rfl rfl ?g1 ?g2 ?g3 ?g4 ?g5 hB ?_)
    case g0 => omega
    case g1 => omega
    case g2 => omega
    case g3 => omega
    case g4 => unfold maxLen; omega
    case g5 => omega
    intro zs c' w1 hown hzl hx1
    have hc'1 := hown.nc
    have hc2 : ∀ w, (Instr.sliceAt 28 (.slice (some ⟨w.heap.size, 0, none⟩) (l.length + 1) c') (some (.int .i64 (n : Int))) none none).run Tryz.prog w = .ok (.slice (some ⟨w.heap.size, n * 3, none⟩) (l.length + 1 - n) (c' - n)) w := fun w => by rw [run_cut_l TDot w _ _ c' .i64 n (by omega), cutAt_some (by omega), Addr.add_lit, Nat.zero_add]
    have hsa1 : ∀ ad, sa = some ad → ¬ blk (some ⟨w.heap.size, 0, none⟩) ad.block := fun ad ha => by
      have := (ho.base ad ha).2.1
      rintro ⟨ad', h, hb⟩
      cases h
      simp only at hb
      omega
    have hvlt := whole_lt hv
    have hfresh : ∀ k, k < w.heap.size → blk (some ⟨w.heap.size, 0, none⟩) k → no k := fun k hk => by
      rintro ⟨ad', h, hb⟩
      cases h
      simp only at hb
      omega
    have hv1 := whole_ext hv hx1 (fun h => h)
    have hr1 := ho.rd.ext hx1 (fun _ _ h => h)
    obtain ⟨w2, hrunA, hown2, hx2⟩ := run_copy_ownK (P := Tryz.prog) (ty := 3) TDot hown (dp := some ⟨w.heap.size, n * 3, none⟩) (off := n) (dLen := l.length + 1 - n) (dCap := c' - n) (xa := some ⟨vb, 0, none⟩) (sl := 1) (m := 1) (cx := vc) (ys := DotR.cells x)
      (Nat.min_eq_left (by omega)) (fun _ => by rw [Addr.add_lit, Nat.zero_add]) (whole_rd hv1) rfl (one1Dot x) (by omega)
    have hr2 := hr1.ext hx2 hsa1
    obtain ⟨w3, hrun, hown3, hx3⟩ := run_copy_ownK (P := Tryz.prog) (ty := 3) TDot hown2.drew (dp := some ⟨w.heap.size, (n + 1) * 3, none⟩) (off := n + 1) (dLen := l.length - n) (dCap := c' - (n + 1)) (xa := cutAt sa c n 3) (sl := l.length - n) (m := l.length - n) (cx := c - n) (ys := (rows DotR.cells l).drop (n * 3))
      (Nat.min_self _) (fun _ => by rw [Addr.add_lit, Nat.zero_add]) (hr2.drew.cutAt c n 3 (fun e => by rw [rows_length kDot]; exact Nat.mul_le_mul_right _ (by omega)))
      (by rw [List.length_drop, rows_length kDot, Nat.mul_sub_right_distrib]) (fun u hu => oneDot l u (List.mem_of_mem_drop hu)) (by omega)
    go_upto_region 11 with fail
    refine wp_region_F [] (looks []) (by kernel_rfl) ?_
    have hT0 : ∀ k, looks [] k (w2.drew) := looks_all trivial
    refine wpF_take 0 (v := ?_) rfl (by kernel_rfl) (by kernel_rfl) (by kernel_rfl) (fun _ _ _ h => h) hT0 (by rfl) ?_ ?_
    rotate_left
    · (intro wq; go_simp; try with_reducible rfl)
    simp only [pz]
    refine wpF_take 1 (v := ?_) rfl (by kernel_rfl) (by kernel_rfl) (by kernel_rfl) (fun _ _ _ h => h) hT0 (by rfl) ?_ ?_
    rotate_left
    · (intro wq; go_simp; try with_reducible rfl)
    simp only [pz]
    refine wpF_take 2 (v := ?_) rfl (by kernel_rfl) (by kernel_rfl) (by kernel_rfl) (fun _ _ _ h => h) hT0 (by rfl) ?_ ?_
    rotate_left
    · (intro wq; go_simp; try with_reducible rfl)
    simp only [pz]
    refine wpF_take 3 (v := .int .i64 ((n : Int) + 1)) rfl (by kernel_rfl) (by kernel_rfl) (by kernel_rfl) (fun _ _ _ h => h) hT0 (by rfl) (by intro wq; go_simp; rw [IntKind.wrap_i64]; omega) ?_
    simp only [pz]
    refine wpF_take 4 (v := .slice (some ⟨w.heap.size, (n + 1) * 3, none⟩) (l.length - n) (c' - (n + 1))) rfl (by kernel_rfl) (by kernel_rfl) (by kernel_rfl) (fun _ _ _ h => h) hT0 (by rfl) (by intro wq; go_simp; rw [if_pos (by omega), if_neg (by omega)]) ?_
    simp only [pz]
    refine wpF_take 5 (v := ?_) rfl (by kernel_rfl) (by kernel_rfl) (by kernel_rfl) (fun _ _ _ h => h) hT0 (by rfl) ?_ ?_
    rotate_left
    · (intro wq; go_simp; try with_reducible rfl)
    simp only [pz]
    refine wpF_take 6 (v := ?_) rfl (by kernel_rfl) (by kernel_rfl) (by kernel_rfl) (fun _ _ _ h => h) hT0 (by rfl) ?_ ?_
    rotate_left
    · (intro wq; go_simp; try with_reducible rfl)
    simp only [pz]
    refine wpF_take 7 (v := ?_) rfl (by kernel_rfl) (by kernel_rfl) (by kernel_rfl) (fun _ _ _ h => h) hT0 (by rfl) ?_ ?_
    rotate_left
    · (intro wq; go_simp; try with_reducible rfl)
    simp only [pz]
    refine wpF_exec 8 rfl (by kernel_rfl) (by rfl) ?_
    intro K hK
    go_simp
    have hT1 : ∀ k, looks [] k (w3) := looks_all trivial
    refine hK _ _ (looks []) trivial hT1 ?_
    clear hK K
    try simp only [pz]
    refine wpF_done (by kernel_rfl) ?_ _
    go_wp2_with fail
    go_ret
    refine ⟨_, c', rfl, ?_, ?_, near_new _ _⟩
    · have e := ins_rows kDot l n x hn zs hzl
      rw [← e]
      exact hown3
    · exact (((hx1.trans hx2 hfresh).comp (Ext.drew no w2)).trans hx3 hfresh).mono (fun _ _ h => absurd h (fun h => h))
  have d2 : decide ((c : Int) < (l.length : Int) + 1) = false := decF (by omega)
  obtain ⟨ad, rfl⟩ : ∃ ad, sa = some ad := by
    obtain ⟨ad, h, _⟩ := ho.can 0 (by omega)
    exact ⟨ad, h⟩
  obtain ⟨zs, hzl, homo⟩ := ho.more (l.length + 1) (by omega) (by omega)
  have hzk : zs.length = 3 := by rw [hzl]; omega
  have hvb0 : vb ≠ ad.block := Ne.symm (hvb ad rfl)
  obtain ⟨tB, kB, hsh, hkB⟩ := ho.shapeOf (by omega)
  have hov : ∀ m c', (callFunc 83 #[.slice (some ⟨vb, 0, none⟩) 1 vc, .slice (some (ad.add ((n + 1) * 3))) m c']).run Tryz.prog w = .ok (.value (.bool false)) w := fun m c' => by
    have h1 := Lib.run_overlaps_apart (P := Tryz.prog) w 28 4 39 Tryz.underlying28 3 (fun _ => rfl) ⟨vb, 0, none⟩ (ad.add ((n + 1) * 3)) 1 vc m c' (by rw [add_block]; exact hvb0) _ tB _ kB (whole_shape hv) (by rw [add_block]; exact hsh) hkB (whole_frozen hv 0) (whole_frozen hv _)
    rw [run_callFunc_extern Tryz.func83 (by kernel_rfl) (by kernel_rfl) (by kernel_rfl) (e := Extern.SlicesOverlaps.overlaps #[28, 28] #[4]) (by kernel_rfl), h1]
    rfl
  have hcl : ∀ w (j : Nat), j ≤ n + 1 → (Instr.sliceAt 28 (.slice (some ad) (l.length + 1) c) (some (.int .i64 (j : Int))) none none).run Tryz.prog w = .ok (.slice (some (ad.add (j * 3))) (l.length + 1 - j) (c - j)) w := fun w j hj => by rw [run_cut_l TDot w _ _ c .i64 j (by omega), cutAt_some (by omega)]
  have hch : ∀ w, (Instr.sliceAt 28 (.slice (some ad) l.length c) none (some (.int .i64 ((l.length : Int) + 1))) none).run Tryz.prog w = .ok (.slice (some ad) (l.length + 1) c) w := fun w => run_cut_h TDot w _ _ c .i64 (l.length + 1) (by omega)
  have hcn := fun w => hcl w n (by omega)
  have hcm1 : ∀ w, (Instr.sliceAt 28 (.slice (some ad) (l.length + 1) c) (some (.int .i64 ((n : Int) + 1))) none none).run Tryz.prog w = .ok (.slice (some (ad.add ((n + 1) * 3))) (l.length - n) (c - (n + 1))) w := fun w => by have := hcl w (n + 1) (by omega); rw [show l.length + 1 - (n + 1) = l.length - n by omega] at this; exact this
  clear hcl
  obtain ⟨w3, hrun, hown3, hx3⟩ := run_copy_ownK (P := Tryz.prog) (ty := 3) TDot homo.drew (dp := some (ad.add ((n + 1) * 3))) (off := n + 1) (dLen := l.length - n) (dCap := c - (n + 1)) (xa := some (ad.add (n * 3))) (sl := l.length + 1 - n) (m := l.length - n) (cx := c - n) (ys := (rows DotR.cells l).drop (n * 3))
    (Nat.min_eq_right (by omega)) (fun _ => rfl) (ho.rd.drew.drop (n * 3)) (by rw [List.length_drop, rows_length kDot, Nat.mul_sub_right_distrib]) (fun u hu => oneDot l u (List.mem_of_mem_drop hu)) (by omega)
  have hv3 := whole_ext (w := w.drew) (w' := w3) hv hx3 (by rintro ⟨ad', h, hb⟩; cases h; exact hvb ad rfl hb)
  obtain ⟨w4, hrunB, hown4, hx4⟩ := run_copy_ownK (P := Tryz.prog) (ty := 3) TDot hown3 (dp := some (ad.add (n * 3))) (off := n) (dLen := l.length + 1 - n) (dCap := c - n) (xa := some ⟨vb, 0, none⟩) (sl := 1) (m := 1) (cx := vc) (ys := DotR.cells x)
    (Nat.min_eq_left (by omega)) (fun _ => rfl) (whole_rd hv3) rfl (one1Dot x) (by omega)
  go_enter Tryz.func58, Tryz.ntmps58
  go_upto_region 15 with fail
  refine wp_region_F [] (looks []) (by kernel_rfl) ?_
  have hT0 : ∀ k, looks [] k (w.drew) := looks_all trivial
  refine wpF_take 0 (v := ?_) rfl (by kernel_rfl) (by kernel_rfl) (by kernel_rfl) (fun _ _ _ h => h) hT0 (by rfl) ?_ ?_
  rotate_left
  · (intro wq; go_simp; try with_reducible rfl)
  simp only [pz]
  refine wpF_take 1 (v := ?_) rfl (by kernel_rfl) (by kernel_rfl) (by kernel_rfl) (fun _ _ _ h => h) hT0 (by rfl) ?_ ?_
  rotate_left
  · (intro wq; go_simp; try with_reducible rfl)
  simp only [pz]
  refine wpF_take 2 (v := ?_) rfl (by kernel_rfl) (by kernel_rfl) (by kernel_rfl) (fun _ _ _ h => h) hT0 (by rfl) ?_ ?_
  rotate_left
  · (intro wq; go_simp; try with_reducible rfl)
  simp only [pz]
  refine wpF_take 3 (v := .int .i64 ((n : Int) + 1)) rfl (by kernel_rfl) (by kernel_rfl) (by kernel_rfl) (fun _ _ _ h => h) hT0 (by rfl) (by intro wq; go_simp; rw [IntKind.wrap_i64]; omega) ?_
  simp only [pz]
  refine wpF_take 4 (v := .slice (some (ad.add ((n + 1) * 3))) (l.length - n) (c - (n + 1))) rfl (by kernel_rfl) (by kernel_rfl) (by kernel_rfl) (fun _ _ _ h => h) hT0 (by rfl) (by intro wq; go_simp) ?_
  simp only [pz]
  refine wpF_take 5 (v := ?_) rfl (by kernel_rfl) (by kernel_rfl) (by kernel_rfl) (fun _ _ _ h => h) hT0 (by rfl) ?_ ?_
  rotate_left
  · (intro wq; go_simp; try with_reducible rfl)
  simp only [pz]
  refine wpF_take 6 (v := ?_) rfl (by kernel_rfl) (by kernel_rfl) (by kernel_rfl) (fun _ _ _ h => h) hT0 (by rfl) ?_ ?_
  rotate_left
  · (intro wq; go_simp; try with_reducible rfl)
  simp only [pz]
  refine wpF_take 7 (v := ?_) rfl (by kernel_rfl) (by kernel_rfl) (by kernel_rfl) (fun _ _ _ h => h) hT0 (by rfl) ?_ ?_
  rotate_left
  · (intro wq; go_simp; try with_reducible rfl)
  simp only [pz]
  refine wpF_exec 8 rfl (by kernel_rfl) (by rfl) ?_
  intro K hK
  go_simp
  have hT1 : ∀ k, looks [] k (w3) := looks_all trivial
  refine hK _ _ (looks []) trivial hT1 ?_
  clear hK K
  try simp only [pz]
  refine wpF_done (by kernel_rfl) ?_ _
  go_wp2_with fail
  go_ret
  refine ⟨_, c, rfl, ?_, ?_, near_self _ _⟩
  · have e := ins_place kDot l n x hnl2 zs hzk
    rw [← e]
    exact hown4
  · exact (((Ext.drew _ w).comp hx3).comp hx4)
set_option maxRecDepth 100000 in
set_option maxHeartbeats 2000000 in
theorem insertBind_any (w : World) (B : Nat) (sa : Option Addr) (c : Nat) (l : List BindR) (n : Nat) (x : BindR) (vb vc : Nat) (hB : B ≤ w.heap.size) (ho : Own w B sa 6 l.length c (rows BindR.cells l)) (hl : l.length ≤ 1099511627775) (hn : n ≤ l.length)
    (hv : w.heap[vb]? = some (.cells #[.int .i64 x.id, .string (str x.text), .int .i64 x.ver, .int .i64 x.dot.dev, .int .i64 x.dot.ep, .int .i64 x.dot.seq] 45)) (hvb : ∀ ad, sa = some ad → ad.block ≠ vb) :
    Calls Tryz.prog 64 #[.slice sa l.length c, .int .i64 n, .slice (some ⟨vb, 0, none⟩) 1 vc] w fun e w' => ∃ a' c', e = .returned (.slice a' (l.length + 1) c') ∧ Own w' B a' 6 (l.length + 1) c' (rows BindR.cells (putAt n x l)) ∧ Ext (blk sa) w w' ∧ Near sa w a' := by
  have hcm := ho.cm
  have hnc := ho.nc
  unfold maxLen at hcm
  have hc0 : ∀ w, (Instr.sliceAt 30 (.slice sa l.length c) (some (.int .i64 (n : Int))) none none).run Tryz.prog w = .ok (.slice (cutAt sa c n 6) (l.length - n) (c - n)) w := fun w => run_cut_l TBind w sa _ c .i64 n hn
  by_cases hnl : n = l.length
  · have d1 : ((n : Int) == (l.length : Int)) = true := by rw [beq_iff_eq]; omega
    have Hn := Lib.hid hnl
    clear hnl
    go_enter Tryz.func64, Tryz.ntmps64
    go_wp2_with (at_builtin; refine wpList_append TBind rfl rfl rfl ho rfl (whole_rd hv) rfl (one1Bind x) (by unfold maxLen; omega) (by omega) hB ?_)
    intro a' c' w1 happ
    have hown := happ.own
    have hext := happ.ext
    go_wp2_with fail
    go_ret
    exact ⟨a', c', rfl, by have e := ins_end (f := BindR.cells) l x; rw [← Hn.out] at e; rw [← e]; exact hown, hext, happ.near⟩
  have d1 : ((n : Int) == (l.length : Int)) = false := by rw [beq_eq_false_iff_ne]; omega
  have hnl2 : n < l.length := by omega
  clear hnl
  by_cases hroom : c < l.length + 1
  · have d2 : decide ((c : Int) < (l.length : Int) + 1) = true := decT (by omega)
    have hc1 : ∀ w, (Instr.sliceAt 30 (.slice sa l.length c) none (some (.int .i64 (n : Int))) none).run Tryz.prog w = .ok (.slice sa n c) w := fun w => run_cut_h TBind w sa _ c .i64 n (by omega)
    go_enter Tryz.func64, Tryz.ntmps64
    go_wp2_with (at_builtin; refine wpList_append_madeN TBind rfl rfl Tryz.underlying3 (ho.front n hn) (m := l.length + 1 - n) (N := l.length + 1) ?g0 rfl rfl ?g1 ?g2 ?g3 ?g4 ?g5 hB ?_)
    case g0 => omega
    case g1 => omega
    case g2 => omega
    case g3 => omega
    case g4 => unfold maxLen; omega
    case g5 => omega
    intro zs c' w1 hown hzl hx1
    have hc'1 := hown.nc
    have hc2 : ∀ w, (Instr.sliceAt 30 (.slice (some ⟨w.heap.size, 0, none⟩) (l.length + 1) c') (some (.int .i64 (n : Int))) none none).run Tryz.prog w = .ok (.slice (some ⟨w.heap.size, n * 6, none⟩) (l.length + 1 - n) (c' - n)) w := fun w => by rw [run_cut_l TBind w _ _ c' .i64 n (by omega), cutAt_some (by omega), Addr.add_lit, Nat.zero_add]
    have hsa1 : ∀ ad, sa = some ad → ¬ blk (some ⟨w.heap.size, 0, none⟩) ad.block := fun ad ha => by
      have := (ho.base ad ha).2.1
      rintro ⟨ad', h, hb⟩
      cases h
      simp only at hb
      omega
    have hvlt := whole_lt hv
    have hfresh : ∀ k, k < w.heap.size → blk (some ⟨w.heap.size, 0, none⟩) k → no k := fun k hk => by
      rintro ⟨ad', h, hb⟩
      cases h
      simp only at hb
      omega
    have hv1 := whole_ext hv hx1 (fun h => h)
    have hr1 := ho.rd.ext hx1 (fun _ _ h => h)
    obtain ⟨w2, hrunA, hown2, hx2⟩ := run_copy_ownK (P := Tryz.prog) (ty := 3) TBind hown (dp := some ⟨w.heap.size, n * 6, none⟩) (off := n) (dLen := l.length + 1 - n) (dCap := c' - n) (xa := some ⟨vb, 0, none⟩) (sl := 1) (m := 1) (cx := vc) (ys := BindR.cells x)
      (Nat.min_eq_left (by omega)) (fun _ => by rw [Addr.add_lit, Nat.zero_add]) (whole_rd hv1) rfl (one1Bind x) (by omega)
    have hr2 := hr1.ext hx2 hsa1
    obtain ⟨w3, hrun, hown3, hx3⟩ := run_copy_ownK (P := Tryz.prog) (ty := 3) TBind hown2.drew (dp := some ⟨w.heap.size, (n + 1) * 6, none⟩) (off := n + 1) (dLen := l.length - n) (dCap := c' - (n + 1)) (xa := cutAt sa c n 6) (sl := l.length - n) (m := l.length - n) (cx := c - n) (ys := (rows BindR.cells l).drop (n * 6))
      (Nat.min_self _) (fun _ => by rw [Addr.add_lit, Nat.zero_add]) (hr2.drew.cutAt c n 6 (fun e => by rw [rows_length kBind]; exact Nat.mul_le_mul_right _ (by omega)))
      (by rw [List.length_drop, rows_length kBind, Nat.mul_sub_right_distrib]) (fun u hu => oneBind l u (List.mem_of_mem_drop hu)) (by omega)
    go_upto_region 11 with fail
    refine wp_region_F [] (looks []) (by kernel_rfl) ?_
    have hT0 : ∀ k, looks [] k (w2.drew) := looks_all trivial
    refine wpF_take 0 (v := ?_) rfl (by kernel_rfl) (by kernel_rfl) (by kernel_rfl) (fun _ _ _ h => h) hT0 (by rfl) ?_ ?_
    rotate_left
    · (intro wq; go_simp; try with_reducible rfl)
    simp only [pz]
    refine wpF_take 1 (v := ?_) rfl (by kernel_rfl) (by kernel_rfl) (by kernel_rfl) (fun _ _ _ h => h) hT0 (by rfl) ?_ ?_
    rotate_left
    · (intro wq; go_simp; try with_reducible rfl)
    simp only [pz]
    refine wpF_take 2 (v := ?_) rfl (by kernel_rfl) (by kernel_rfl) (by kernel_rfl) (fun _ _ _ h => h) hT0 (by rfl) ?_ ?_
    rotate_left
    · (intro wq; go_simp; try with_reducible rfl)
    simp only [pz]
    refine wpF_take 3 (v := .int .i64 ((n : Int) + 1)) rfl (by kernel_rfl) (by kernel_rfl) (by kernel_rfl) (fun _ _ _ h => h) hT0 (by rfl) (by intro wq; go_simp; rw [IntKind.wrap_i64]; omega) ?_
    simp only [pz]
    refine wpF_take 4 (v := .slice (some ⟨w.heap.size, (n + 1) * 6, none⟩) (l.length - n) (c' - (n + 1))) rfl (by kernel_rfl) (by kernel_rfl) (by kernel_rfl) (fun _ _ _ h => h) hT0 (by rfl) (by intro wq; go_simp; rw [if_pos (by omega), if_neg (by omega)]) ?_
    simp only [pz]
    refine wpF_take 5 (v := ?_) rfl (by kernel_rfl) (by kernel_rfl) (by kernel_rfl) (fun _ _ _ h => h) hT0 (by rfl) ?_ ?_
    rotate_left
    · (intro wq; go_simp; try with_reducible rfl)
    simp only [pz]
    refine wpF_take 6 (v := ?_) rfl (by kernel_rfl) (by kernel_rfl) (by kernel_rfl) (fun _ _ _ h => h) hT0 (by rfl) ?_ ?_
    rotate_left
    · (intro wq; go_simp; try with_reducible rfl)
    simp only [pz]
    refine wpF_take 7 (v := ?_) rfl (by kernel_rfl) (by kernel_rfl) (by kernel_rfl) (fun _ _ _ h => h) hT0 (by rfl) ?_ ?_
    rotate_left
    · (intro wq; go_simp; try with_reducible rfl)
    simp only [pz]
    refine wpF_exec 8 rfl (by kernel_rfl) (by rfl) ?_
    intro K hK
    go_simp
    have hT1 : ∀ k, looks [] k (w3) := looks_all trivial
    refine hK _ _ (looks []) trivial hT1 ?_
    clear hK K
    try simp only [pz]
    refine wpF_done (by kernel_rfl) ?_ _
    go_wp2_with fail
    go_ret
    refine ⟨_, c', rfl, ?_, ?_, near_new _ _⟩
    · have e := ins_rows kBind l n x hn zs hzl
      rw [← e]
      exact hown3
    · exact (((hx1.trans hx2 hfresh).comp (Ext.drew no w2)).trans hx3 hfresh).mono (fun _ _ h => absurd h (fun h => h))
  have d2 : decide ((c : Int) < (l.length : Int) + 1) = false := decF (by omega)
  obtain ⟨ad, rfl⟩ : ∃ ad, sa = some ad := by
    obtain ⟨ad, h, _⟩ := ho.can 0 (by omega)
    exact ⟨ad, h⟩
  obtain ⟨zs, hzl, homo⟩ := ho.more (l.length + 1) (by omega) (by omega)
  have hzk : zs.length = 6 := by rw [hzl]; omega
  have hvb0 : vb ≠ ad.block := Ne.symm (hvb ad rfl)
  obtain ⟨tB, kB, hsh, hkB⟩ := ho.shapeOf (by omega)
  have hov : ∀ m c', (callFunc 92 #[.slice (some ⟨vb, 0, none⟩) 1 vc, .slice (some (ad.add ((n + 1) * 6))) m c']).run Tryz.prog w = .ok (.value (.bool false)) w := fun m c' => by
    have h1 := Lib.run_overlaps_apart (P := Tryz.prog) w 30 4 45 Tryz.underlying30 6 (fun _ => rfl) ⟨vb, 0, none⟩ (ad.add ((n + 1) * 6)) 1 vc m c' (by rw [add_block]; exact hvb0) _ tB _ kB (whole_shape hv) (by rw [add_block]; exact hsh) hkB (whole_frozen hv 0) (whole_frozen hv _)
    rw [run_callFunc_extern Tryz.func92 (by kernel_rfl) (by kernel_rfl) (by kernel_rfl) (e := Extern.SlicesOverlaps.overlaps #[30, 30] #[4]) (by kernel_rfl), h1]
    rfl
  have hcl : ∀ w (j : Nat), j ≤ n + 1 → (Instr.sliceAt 30 (.slice (some ad) (l.length + 1) c) (some (.int .i64 (j : Int))) none none).run Tryz.prog w = .ok (.slice (some (ad.add (j * 6))) (l.length + 1 - j) (c - j)) w := fun w j hj => by rw [run_cut_l TBind w _ _ c .i64 j (by omega), cutAt_some (by omega)]
  have hch : ∀ w, (Instr.sliceAt 30 (.slice (some ad) l.length c) none (some (.int .i64 ((l.length : Int) + 1))) none).run Tryz.prog w = .ok (.slice (some ad) (l.length + 1) c) w := fun w => run_cut_h TBind w _ _ c .i64 (l.length + 1) (by omega)
  have hcn := fun w => hcl w n (by omega)
  have hcm1 : ∀ w, (Instr.sliceAt 30 (.slice (some ad) (l.length + 1) c) (some (.int .i64 ((n : Int) + 1))) none none).run Tryz.prog w = .ok (.slice (some (ad.add ((n + 1) * 6))) (l.length - n) (c - (n + 1))) w := fun w => by have := hcl w (n + 1) (by omega); rw [show l.length + 1 - (n + 1) = l.length - n by omega] at this; exact this
  clear hcl
  obtain ⟨w3, hrun, hown3, hx3⟩ := run_copy_ownK (P := Tryz.prog) (ty := 3) TBind homo.drew (dp := some (ad.add ((n + 1) * 6))) (off := n + 1) (dLen := l.length - n) (dCap := c - (n + 1)) (xa := some (ad.add (n * 6))) (sl := l.length + 1 - n) (m := l.length - n) (cx := c - n) (ys := (rows BindR.cells l).drop (n * 6))
    (Nat.min_eq_right (by omega)) (fun _ => rfl) (ho.rd.drew.drop (n * 6)) (by rw [List.length_drop, rows_length kBind, Nat.mul_sub_right_distrib]) (fun u hu => oneBind l u (List.mem_of_mem_drop hu)) (by omega)
  have hv3 := whole_ext (w := w.drew) (w' := w3) hv hx3 (by rintro ⟨ad', h, hb⟩; cases h; exact hvb ad rfl hb)
  obtain ⟨w4, hrunB, hown4, hx4⟩ := run_copy_ownK (P := Tryz.prog) (ty := 3) TBind hown3 (dp := some (ad.add (n * 6))) (off := n) (dLen := l.length + 1 - n) (dCap := c - n) (xa := some ⟨vb, 0, none⟩) (sl := 1) (m := 1) (cx := vc) (ys := BindR.cells x)
    (Nat.min_eq_left (by omega)) (fun _ => rfl) (whole_rd hv3) rfl (one1Bind x) (by omega)
  go_enter Tryz.func64, Tryz.ntmps64
  go_upto_region 15 with fail
  refine wp_region_F [] (looks []) (by kernel_rfl) ?_
  have hT0 : ∀ k, looks [] k (w.drew) := looks_all trivial
  refine wpF_take 0 (v := ?_) rfl (by kernel_rfl) (by kernel_rfl) (by kernel_rfl) (fun _ _ _ h => h) hT0 (by rfl) ?_ ?_
  rotate_left
  · (intro wq; go_simp; try with_reducible rfl)
  simp only [pz]
  refine wpF_take 1 (v := ?_) rfl (by kernel_rfl) (by kernel_rfl) (by kernel_rfl) (fun _ _ _ h => h) hT0 (by rfl) ?_ ?_
  rotate_left
  · (intro wq; go_simp; try with_reducible rfl)
  simp only [pz]
  refine wpF_take 2 (v := ?_) rfl (by kernel_rfl) (by kernel_rfl) (by kernel_rfl) (fun _ _ _ h => h) hT0 (by rfl) ?_ ?_
  rotate_left
  · (intro wq; go_simp; try with_reducible rfl)
  simp only [pz]
  refine wpF_take 3 (v := .int .i64 ((n : Int) + 1)) rfl (by kernel_rfl) (by kernel_rfl) (by kernel_rfl) (fun _ _ _ h => h) hT0 (by rfl) (by intro wq; go_simp; rw [IntKind.wrap_i64]; omega) ?_
  simp only [pz]
  refine wpF_take 4 (v := .slice (some (ad.add ((n + 1) * 6))) (l.length - n) (c - (n + 1))) rfl (by kernel_rfl) (by kernel_rfl) (by kernel_rfl) (fun _ _ _ h => h) hT0 (by rfl) (by intro wq; go_simp) ?_
  simp only [pz]
  refine wpF_take 5 (v := ?_) rfl (by kernel_rfl) (by kernel_rfl) (by kernel_rfl) (fun _ _ _ h => h) hT0 (by rfl) ?_ ?_
  rotate_left
  · (intro wq; go_simp; try with_reducible rfl)
  simp only [pz]
  refine wpF_take 6 (v := ?_) rfl (by kernel_rfl) (by kernel_rfl) (by kernel_rfl) (fun _ _ _ h => h) hT0 (by rfl) ?_ ?_
  rotate_left
  · (intro wq; go_simp; try with_reducible rfl)
  simp only [pz]
  refine wpF_take 7 (v := ?_) rfl (by kernel_rfl) (by kernel_rfl) (by kernel_rfl) (fun _ _ _ h => h) hT0 (by rfl) ?_ ?_
  rotate_left
  · (intro wq; go_simp; try with_reducible rfl)
  simp only [pz]
  refine wpF_exec 8 rfl (by kernel_rfl) (by rfl) ?_
  intro K hK
  go_simp
  have hT1 : ∀ k, looks [] k (w3) := looks_all trivial
  refine hK _ _ (looks []) trivial hT1 ?_
  clear hK K
  try simp only [pz]
  refine wpF_done (by kernel_rfl) ?_ _
  go_wp2_with fail
  go_ret
  refine ⟨_, c, rfl, ?_, ?_, near_self _ _⟩
  · have e := ins_place kBind l n x hnl2 zs hzk
    rw [← e]
    exact hown4
  · exact (((Ext.drew _ w).comp hx3).comp hx4)
end Go.Proofs.YtejmmkjpncpedaaGreat
