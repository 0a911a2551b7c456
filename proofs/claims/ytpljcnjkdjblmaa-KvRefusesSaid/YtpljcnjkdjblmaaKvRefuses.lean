/- The walk of KvRefuses. -/
import Derived.Test.YtpljcnjkdjblmaaKvI
import Derived.Test.YtpljcnjkdjblmaaKvO
namespace Go.Esc
open Go.RowKit
theorem old_enc : (kvEnc [(⟨0, [111, 108, 100], [118], false⟩ : ChangeR)]).length ≤ 2060 := by
  have h1 := (encI_length (1 : Nat) ⟨by omega, by omega⟩).1
  have h2 := chEncs_len [(⟨0, [111, 108, 100], [118], false⟩ : ChangeR)] (fun c hc => by rw [List.mem_singleton] at hc; rw [hc]; exact ⟨⟨by decide, by decide⟩, by decide, by decide⟩)
  unfold kvEnc
  rw [List.length_append]
  have h3 : (encI (([(⟨0, [111, 108, 100], [118], false⟩ : ChangeR)] : List ChangeR).length : Nat)).length ≤ 10 := h1
  simp only [List.length_cons, List.length_nil] at h2 h3 ⊢
  omega
theorem old_err : kvErr [] [(⟨0, [111, 108, 100], [118], false⟩ : ChangeR)] = 0 := by decide
theorem old_m : bM [] [(⟨0, [111, 108, 100], [118], false⟩ : ChangeR)] = [((0, [111, 108, 100]), [118])] := by decide
theorem old_n : bN 0 [] [(⟨0, [111, 108, 100], [118], false⟩ : ChangeR)] = 1 := by decide
theorem old_ds : Well (bDs (DS.new 100000) [] [(⟨0, [111, 108, 100], [118], false⟩ : ChangeR)]) (frame (kvEnc [(⟨0, [111, 108, 100], [118], false⟩ : ChangeR)])) [] 100000 2 ∧ ((DS.new 100000).jadd (kvEnc [(⟨0, [111, 108, 100], [118], false⟩ : ChangeR)])).2 = 0 := by
  have h := (Well.new 100000).jadd (kvEnc [(⟨0, [111, 108, 100], [118], false⟩ : ChangeR)]) (by have := old_enc; simp only [List.length_nil, Nat.zero_add]; omega)
  refine ⟨?_, h.1⟩
  unfold bDs
  rw [if_pos ⟨old_err, by simp⟩]
  exact h.2
theorem old_ok : (bDs (DS.new 100000) [] [(⟨0, [111, 108, 100], [118], false⟩ : ChangeR)]).ok := by
  refine old_ds.1.ok ?_ (by omega) (by omega)
  have := old_enc
  rw [frame_length]
  simp only [List.length_nil]
  omega
/-- A batch with one change among good ones that may not be. -/
theorem mix_err (m : KvM) (G : List ChangeR) (P : Nat) (bad : ChangeR) (hG : ∀ c ∈ G, chErr c = 0) (hP : P ≤ G.length) (hb : chErr bad ≠ 0) (h20 : ¬ 20 < (G.take P ++ [bad] ++ G.drop P).length) : kvErr m (G.take P ++ [bad] ++ G.drop P) = chErr bad := by
  have hl : (G.take P).length = P := by rw [List.length_take]; omega
  have h1 : (G.take P ++ [bad] ++ G.drop P)[P]? = some bad := by
    rw [List.append_assoc, List.getElem?_append_right (by omega), hl]
    simp
  have h2 : (G.take P ++ [bad] ++ G.drop P).take P = G.take P := by
    rw [List.append_assoc, List.take_append_of_le_length (by omega), List.take_of_length_le (by omega)]
  have h3 := firstErr_at _ P bad h1 (fun d hd => by rw [h2] at hd; exact hG d (List.mem_of_mem_take hd)) hb
  unfold kvErr
  rw [if_neg h20, if_pos (by rw [h3]; exact hb), h3]
end Go.Esc
namespace Go.Proofs.Ytpljcnjkdjblmaa
open Go.RowKit Go.Esc
set_option linter.unusedVariables false
set_option linter.unusedSimpArgs false

set_option maxRecDepth 100000 in
set_option maxHeartbeats 32000000 in
theorem kvrefuses_walk (w : World) (la : Option Addr) (l : List ChangeR) (lc : Nat) (pt wh lg : Int) (hr : Rd w la (rows ChangeR.cells l)) (hlok : ∀ c ∈ l, c.ok) (hlc : l.length ≤ lc) (hcm : lc ≤ maxLen) (hpt : I64ok pt) (hwh : I64ok wh) (hlg : I64ok lg) :
    Calls Try.prog 5 #[.slice la l.length lc, .int .i64 pt, .int .i64 wh, .int .i64 lg] w fun e w' => e = .returned (.bool true) ∧ Ext no w w' := by
  have Hlok := Lib.hid hlok
  have Hcm := Lib.hid hcm
  clear hlok
  unfold maxLen at hcm
  go_enter Try.func5, Try.ntmps5
  go_wp2_with fail
  refine (kvknown_any w).mono ?_
  rintro e w0 ⟨rfl, hx0⟩
  by_cases h40 : 40 < l.length
  · have d0 : decide ((40 : Int) < (l.length : Int)) = true := decT (by omega)
    go_wp2_with fail
    go_ret
    exact ⟨rfl, hx0⟩
  have d0 : decide ((40 : Int) < (l.length : Int)) = false := decF (by omega)
  go_wp2_with fail
  refine (newdisk_any w0 100000 (by omega) (by omega) (fun _ => False)).mono ?_
  rintro e w1 ⟨g, rfl, hD, hg, hx1⟩
  have hW1 := hx0.comp hx1
  have hgw : w.heap.size ≤ g := by have := hx0.size; omega
  have hw1 := hW1.size
  clear hx0 hx1 hg
  go_wp2_with fail
  refine (kvfresh w1 g 100000 hD (by omega)).mono ?_
  rintro e w2 ⟨s, j, b, rfl, hSt, ⟨h1, h2, h3⟩, hx2⟩
  have hW2 : Ext no w w2 := hW1.trans hx2 (fun k hk e => by have e : k = g := e; omega)
  clear hx2 hD hW1
  go_wp2_with fail
  have hxo := Ext.alloc no w2 (.cells #[.int .i64 0, .string { data := #[111, 108, 100] }, .string { data := #[118] }, .bool false] 39)
  have hSt1 := hSt.no hxo
  refine (kvapply_any _ g s j b 0 (DS.new 100000) [] hSt1 ((Well.new 100000).ok (by simp) (by omega) (by omega)) (by simp [DS.new]) (by omega) (by simp) (some ⟨w2.heap.size, 0, none⟩) [(⟨0, [111, 108, 100], [118], false⟩ : ChangeR)] 1 (Rd.lit w2 #[.int .i64 0, .string { data := #[111, 108, 100] }, .string { data := #[118] }, .bool false] _ _) (fun c hc => by rw [List.mem_singleton] at hc; rw [hc]; exact ⟨⟨by decide, by decide⟩, by decide, by decide⟩) (by simp) (by unfold maxLen; omega) (fun _ _ => old_ds.2)).mono ?_
  rintro e w3 ⟨rfl, b1, hSt3, hb1, hx3⟩
  have hzo : (w2.alloc (.cells #[.int .i64 0, .string { data := #[111, 108, 100] }, .string { data := #[118] }, .bool false] 39)).heap.size = w2.heap.size + 1 := by simp
  have hwz := hW2.size
  have hW3 : Ext no w w3 := (hW2.comp hxo).trans hx3 (fun k hk e => by rcases e with e | e | e <;> omega)
  rw [old_m, old_n] at hSt3
  have hb1w : w.heap.size ≤ b1 := by rcases hb1 with e | e <;> omega
  obtain ⟨ds, hds⟩ : ∃ ds, ds = bDs (DS.new 100000) [] [(⟨0, [111, 108, 100], [118], false⟩ : ChangeR)] := ⟨_, rfl⟩
  have hok : ds.ok := by rw [hds]; exact old_ok
  have hdn : ds.done ≤ 999990 := by rw [hds]; have := old_ds.1.done; omega
  rw [← hds] at hSt3
  clear hds hb1 hx3 hxo hSt hSt1 hzo hW2 hwz h3
  have HSt := Lib.hid hSt3
  have hD3 := hSt3.dk
  clear hSt3
  go_upto_region 8 with fail
  refine wp_region_F [2, 5] (looks [(2, fun z => True), (5, fun z => True)]) (by kernel_rfl) ?_
  have hT0 : ∀ k, looks [(2, fun z => True), (5, fun z => True)] k (w3.drew) := looks_all ⟨trivial, trivial, trivial⟩
  refine wpF_take 0 (v := ?_) rfl (by kernel_rfl) (by kernel_rfl) (by kernel_rfl) (fun _ _ _ h => h) hT0 (by rfl) ?_ ?_
  rotate_left
  · (intro wq; go_simp; try with_reducible rfl)
  simp only [Act.put, List.setIfInBounds_toArray, List.set_cons_zero, List.set_cons_succ]
  refine wpF_take 3 (v := ?_) rfl (by kernel_rfl) (by kernel_rfl) (by kernel_rfl) (fun _ _ _ h => h) hT0 (by rfl) ?_ ?_
  rotate_left
  · (intro wq; go_simp; try with_reducible rfl)
  simp only [Act.put, List.setIfInBounds_toArray, List.set_cons_zero, List.set_cons_succ]
  refine wpF_exec 1 rfl (by kernel_rfl) (by rfl) ?_
  intro K hK
  go_simp
  refine (log_any' _ g ds _ (hD3.no (Ext.drew no w3)) hok).mono ?_
  rintro e v1 ⟨a1, c1, rfl, o1, x1⟩
  have hT1 : ∀ k, looks [(2, fun z => Rd z a1 (bs ds.log)), (5, fun z => True)] k (v1) := looks_all ⟨o1.rd, trivial, trivial⟩
  refine hK _ _ (looks [(2, fun z => Rd z a1 (bs ds.log)), (5, fun z => True)]) ⟨.inl (by kernel_rfl), .inl (by kernel_rfl), trivial⟩ hT1 ?_
  clear hK K
  try simp only [Act.put, List.setIfInBounds_toArray, List.set_cons_zero, List.set_cons_succ]
  replace x1 := (Ext.drew no w3).comp x1
  refine wpF_look 2 (v := .string (str ds.log)) rfl rfl (by kernel_rfl) (by kernel_rfl) (by kernel_rfl) (by kernel_rfl) (fun _ _ _ h => h) hT1 (by rfl) (fun w hS => by have hS : Rd w a1 (bs ds.log) := hS; have q := convStr w a1 _ c1 ds.log rfl hS; go_simp) ?_
  simp only [Act.put, List.setIfInBounds_toArray, List.set_cons_zero, List.set_cons_succ]
  refine wpF_exec 4 rfl (by kernel_rfl) (by rfl) ?_
  intro K hK
  go_simp
  refine (snap_any _ g ds _ (hD3.no x1) hok).mono ?_
  rintro e v2 ⟨a2, c2, rfl, o2, x2⟩
  have hT2 : ∀ k, looks [(2, fun z => Rd z a1 (bs ds.log)), (5, fun z => Rd z a2 (bs ds.snap))] k (v2) := looks_all ⟨o1.rd.ext x2 (fun _ _ h => h), o2.rd, trivial⟩
  refine hK _ _ (looks [(2, fun z => Rd z a1 (bs ds.log)), (5, fun z => Rd z a2 (bs ds.snap))]) ⟨.inr (.inr (fun x h => h)), .inl (by kernel_rfl), trivial⟩ hT2 ?_
  clear hK K
  try simp only [Act.put, List.setIfInBounds_toArray, List.set_cons_zero, List.set_cons_succ]
  replace x2 := x1.comp x2
  refine wpF_look 5 (v := .string (str ds.snap)) rfl rfl (by kernel_rfl) (by kernel_rfl) (by kernel_rfl) (by kernel_rfl) (fun _ _ _ h => h) hT2 (by rfl) (fun w hS => by have hS : Rd w a2 (bs ds.snap) := hS; have q := convStr w a2 _ c2 ds.snap rfl hS; go_simp) ?_
  simp only [Act.put, List.setIfInBounds_toArray, List.set_cons_zero, List.set_cons_succ]
  refine wpF_take 6 (v := ?_) rfl (by kernel_rfl) (by kernel_rfl) (by kernel_rfl) (fun _ _ _ h => h) hT2 (by rfl) ?_ ?_
  rotate_left
  · (intro wq; go_simp; try with_reducible rfl)
  simp only [Act.put, List.setIfInBounds_toArray, List.set_cons_zero, List.set_cons_succ]
  refine wpF_take 7 (v := ?_) rfl (by kernel_rfl) (by kernel_rfl) (by kernel_rfl) (fun _ _ _ h => h) hT2 (by rfl) ?_ ?_
  rotate_left
  · (intro wq; go_simp; try with_reducible rfl)
  simp only [Act.put, List.setIfInBounds_toArray, List.set_cons_zero, List.set_cons_succ]
  refine wpF_done (by kernel_rfl) ?_ _
  clear o1 o2 hD3
  have hW4 := hW3.comp x2
  have hSt4 := HSt.out.no x2
  have hw4 := hW4.size
  clear x1 x2 hW3 HSt
  go_wp2_with fail
  refine (kvgood_any v2 la l lc (hr.ext hW4 (fun _ _ h => h)) Hlok.out hlc Hcm.out).mono ?_
  rintro e w5 ⟨ga, gc, rfl, hog, hx5⟩
  have hGl := goodL_len l
  have hGe := goodL_err l
  have hGo := goodL_ok l Hlok.out
  generalize goodL l = G at *
  have hW5 := hW4.comp hx5
  have hSt5 := hSt4.no hx5
  have hv2 := hx5.size
  have hGr := hog.rd
  have hGc := hog.nc
  have hGm := hog.cm
  have HGe := Lib.hid hGe
  have HGo := Lib.hid hGo
  clear hog hx5 hSt4 hW4 hGe hGo
  go_upto_region 11 with fail
  have hX := Blk.lit w5 #[.int .i64 0, .string { data := #[107] }, .string { data := #[118] }, .bool false] 39
  have hxb := Ext.alloc no w5 (.cells #[.int .i64 0, .string { data := #[107] }, .string { data := #[118] }, .bool false] 39)
  have hx6 : Ext no w5 _ := hxb
  have hXl := hX.lt (by simp)
  generalize w5.alloc (.cells #[.int .i64 0, .string { data := #[107] }, .string { data := #[118] }, .bool false] 39) = w6 at *
  obtain ⟨gx, hgx⟩ : ∃ gx, gx = w5.heap.size := ⟨_, rfl⟩
  have hgx1 : w.heap.size ≤ gx := by have := hW5.size; omega
  have hgx2 : w5.heap.size ≤ gx := by omega
  rw [← hgx] at hX hXl ⊢
  clear hgx hxb
  have HSt5 := Lib.hid hSt5
  clear hSt5
  go_wp2_with fail
  refine (kvwithin_any wh 5 w6 (by omega) (by omega) hwh).mono ?_
  rintro e _ ⟨rfl, rfl⟩
  have hk0 := Int.emod_nonneg wh (show (5 : Int) ≠ 0 by omega)
  have hk5 := Int.emod_lt_of_pos wh (show (0 : Int) < 5 by omega)
  generalize wh % 5 = k at *
  by_cases hk : k = 0
  · have b0_ : (k == 0) = true := by rw [beq_iff_eq]; exact hk
    clear hk hk0 hk5
    go_wp2_with fail
    refine (kvwithin_any lg 9 w6 (by omega) (by omega) hlg).mono ?_
    rintro e _ ⟨rfl, rfl⟩
    have hr0 := Int.emod_nonneg lg (show (9 : Int) ≠ 0 by omega)
    have hr9 := Int.emod_lt_of_pos lg (show (0 : Int) < 9 by omega)
    generalize lg % 9 = r at *
    have cb := hX.cell 0 _ rfl
    have fb := hX.fr 0
    go_upto_region 28 with fail
    have bX := hX.set 0 (.int .i64 (3 + r)) (by simp)
    have hx : Ext no w5 _ := hx6.trans (Ext.setCell (S := just gx) w6 ⟨gx, 0, none⟩ (.int .i64 (3 + r)) rfl) (fun q hq e => by have e : q = gx := e; omega)
    clear cb fb
    generalize w6.setCell ⟨gx, 0, none⟩ (.int .i64 (3 + r)) = w7 at *
    have hbe : chErr (⟨3 + r, [107], [118], false⟩ : ChangeR) = 1 := by unfold chErr; rw [if_pos (.inr (by show (3 : Int) ≤ 3 + r; omega))]
    have hbo : ChangeR.ok (⟨3 + r, [107], [118], false⟩ : ChangeR) := ⟨⟨by show _ ≤ 3 + r; omega, by show 3 + r ≤ _; omega⟩, by show ([107] : List UInt8).length ≤ maxLen; decide, by show ([118] : List UInt8).length ≤ maxLen; decide⟩
    have hz0 := bX.cell 0 _ rfl
    have hz1 := bX.cell 1 _ rfl
    have hz2 := bX.cell 2 _ rfl
    have hz3 := bX.cell 3 _ rfl
    have hw5W := hx.size
    go_wp2_with fail
    refine (kvwithin_any pt (G.length + 1) w7 (by omega) (by omega) hpt).mono ?_
    rintro e _ ⟨rfl, rfl⟩
    have hp0 := Int.emod_nonneg pt (show ((G.length : Int) + 1) ≠ 0 by omega)
    have hp1 := Int.emod_lt_of_pos pt (show (0 : Int) < (G.length : Int) + 1 by omega)
    obtain ⟨P, hP⟩ : ∃ P : Nat, pt % ((G.length : Int) + 1) = (P : Int) := ⟨(pt % ((G.length : Int) + 1)).toNat, (Int.toNat_of_nonneg hp0).symm⟩
    rw [hP] at hp0 hp1 ⊢
    have hPG : P ≤ G.length := by omega
    clear hP hp0 hp1
    have hA0 : Ext no w5 (w7.alloc (.cells #[] 39)) := hx.comp (Ext.alloc no _ _)
    have hf : Rd (w7.alloc (.cells #[] 39)) ga (rows ChangeR.cells (G.take P)) := by have q := (hGr.ext hA0 (fun _ _ h => h)).take (P * 4); rwa [rows_take kChange] at q
    obtain ⟨B, hBB⟩ : ∃ B, B = w7.heap.size := ⟨_, rfl⟩
    have hz : Own (w7.alloc (.cells #[] 39)) B (some ⟨w7.heap.size, 0, none⟩) 4 0 0 [] := by rw [hBB]; exact Own.fresh w7 _ _ _ _ _ _ _ _ (Nat.le_refl _) (by simp) (Nat.le_refl _) (Nat.zero_le _) (by simp) (by simp) (.inl (Nat.le_refl _))
    have hcA : ∀ w, (Instr.sliceAt 36 (.slice ga G.length gc) none (some (.int .i64 (P : Int))) none).run Try.prog w = .ok (.slice ga P gc) w := fun w => run_cut_h TChange w ga _ gc .i64 P (by omega)
    have hBx := bX.lt (by simp)
    have hB1 : gx < B := by omega
    have hB2 : w5.heap.size ≤ B := by omega
    have hB3 : B ≤ w7.heap.size := by omega
    have hB4 : w7.heap.size ≤ B := by omega
    clear hBB
    go_wp2_with (at_builtin; refine wpList_append TChange rfl rfl rfl hz rfl hf (by rw [rows_length kChange, List.length_take]; congr 1; omega) (oneChange _) ?c1 ?c2 (by simp; omega) ?_)
    case c1 => unfold maxLen; omega
    case c2 => omega
    intro a1 c1 u1 hp1
    try rw [Nat.zero_add]
    have ho1 := hp1.own
    rw [Nat.zero_add, List.nil_append] at ho1
    have hxA : Ext no w7 u1 := (Ext.alloc no _ _).trans hp1.ext (fun k hk => by rintro ⟨ad, h, hb⟩; cases h; simp only at hb; omega)
    have hBs : B ≤ u1.heap.size := by have := hxA.size; omega
    have b1X := bX.ext (by simp) hxA (fun h => h)
    replace hx := hx.comp hxA
    clear hp1 hz hf hcA hB3 hB4 hA0 hxA bX hz0 hz1 hz2 hz3
    have hz0 := b1X.cell 0 _ rfl
    have hz1 := b1X.cell 1 _ rfl
    have hz2 := b1X.cell 2 _ rfl
    have hz3 := b1X.cell 3 _ rfl
    have hX1 : Rd (u1.alloc (.cells #[.int .i64 (3 + r), .string { data := #[107] }, .string { data := #[118] }, .bool false] 39)) (some ⟨u1.heap.size, 0, none⟩) (ChangeR.cells (⟨3 + r, [107], [118], false⟩ : ChangeR)) := Rd.lit u1 #[.int .i64 (3 + r), .string { data := #[107] }, .string { data := #[118] }, .bool false] _ _
    go_wp2_with (at_builtin; refine wpList_append TChange rfl rfl rfl (ho1.alloc _) rfl hX1 rfl (one1Change (⟨3 + r, [107], [118], false⟩ : ChangeR)) ?c1 ?c2 ?c3 ?_)
    case c1 => unfold maxLen; omega
    case c2 => omega
    case c3 => first | omega | (simp; omega)
    intro a2 c2 u2 hp2
    have ho2 := hp2.own
    have hxB : Ext no w5 u2 := (hx.comp (Ext.alloc no u1 (.cells #[.int .i64 (3 + r), .string { data := #[107] }, .string { data := #[118] }, .bool false] 39))).trans hp2.ext (fun k hk => by rintro ⟨ad, h, hb⟩; have := (ho1.base ad h).1; omega)
    have hzB : B ≤ u2.heap.size := Nat.le_trans hBs (Nat.le_trans (Ext.alloc no u1 (.cells #[.int .i64 (3 + r), .string { data := #[107] }, .string { data := #[118] }, .bool false] 39)).size hp2.ext.size)
    clear hp2 hX1 ho1 b1X hx hz0 hz1 hz2 hz3
    have hcC : ∀ w, (Instr.sliceAt 36 (.slice ga G.length gc) (some (.int .i64 (P : Int))) none none).run Try.prog w = .ok (.slice (cutAt ga gc P 4) (G.length - P) (gc - P)) w := fun w => run_cut_l TChange w ga _ gc .i64 P (by omega)
    have hf2 : Rd u2 (cutAt ga gc P 4) (rows ChangeR.cells (G.drop P)) := by have q := (hGr.ext hxB (fun _ _ h => h)).cutAt gc P 4 (fun e => by rw [rows_length kChange]; exact Nat.mul_le_mul_right _ (by omega)); rwa [rows_drop kChange] at q
    go_wp2_with (at_builtin; refine wpList_append TChange rfl rfl rfl ho2 rfl hf2 (by rw [rows_length kChange, List.length_drop]) (oneChange _) ?c1 ?c2 ?c3 ?_)
    case c1 => unfold maxLen; omega
    case c2 => omega
    case c3 => omega
    intro a3 c3 u3 hp3
    obtain ⟨X, hX'⟩ : ∃ X, X = G.take P ++ [(⟨3 + r, [107], [118], false⟩ : ChangeR)] ++ G.drop P := ⟨_, rfl⟩
    have hXn : P + 1 + (G.length - P) = X.length := by rw [hX', List.length_append, List.length_append, List.length_take, List.length_drop, List.length_singleton]; omega
    have ho3 : Own u3 B a3 4 X.length c3 (rows ChangeR.cells X) := by have q := hp3.own; rw [← hXn, hX', rows_append, rows_append, rows_one]; exact q
    have hxC : Ext no w5 u3 := hxB.trans hp3.ext (fun k hk => by rintro ⟨ad, h, hb⟩; have := (ho2.base ad h).1; omega)
    have hXok : ∀ c ∈ X, c.ok := fun c hc => by
      rw [hX'] at hc
      rcases List.mem_append.1 hc with hc | hc
      · rcases List.mem_append.1 hc with hc | hc
        · exact HGo.out c (List.mem_of_mem_take hc)
        · rw [List.mem_singleton] at hc; rw [hc]; exact hbo
      · exact HGo.out c (List.mem_of_mem_drop hc)
    have hSt := HSt5.out.no hxC
    have hW3 := hW5.comp hxC
    rw [hXn]
    clear hp3 hf2 hcC hxB hxC ho2 hXn hbo hGr
    by_cases h20 : 20 < X.length
    · have d9 : decide ((20 : Int) < (X.length : Int)) = true := decT (by omega)
      have hERR : kvErr [((0, [111, 108, 100]), [118])] X = 4 := by rw [hX']; exact (by unfold kvErr; rw [if_pos (by rw [← hX']; exact h20)])
      have HERR := Lib.hid hERR
      clear hERR hX' hbe
      go_wp2_with fail
      refine (kvget_any u3 s j b1 _ 0 [111, 108, 100] hSt.blk hSt.mp ⟨⟨by omega, by omega⟩, by unfold maxLen; simp⟩).mono ?_
      rintro e _ ⟨rfl, rfl⟩
      have g1 : (kvGet [((0, [111, 108, 100]), [118])] (0, [111, 108, 100])).getD [] = [118] := by decide
      have g2 : kvHas [((0, [111, 108, 100]), [118])] (0, [111, 108, 100]) = true := by decide
      rw [g1, g2]
      clear g1 g2
      have q9 : ((str [118]).toList == [118]) = true := by rw [toList_str]; rfl
      have HS3 := Lib.hid hSt
      clear hSt
      go_wp2_with fail
      refine (kvapply_any u3 g s j b1 1 ds [((0, [111, 108, 100]), [118])] HS3.out hok hdn (by omega) (by simp) a3 X c3 ho3.rd hXok ho3.nc ho3.cm (fun h0 => by rw [HERR.out] at h0; cases h0)).mono ?_
      rintro e u5 ⟨rfl, b', hSt5', hb5, hx5⟩
      have hW7 := hW3.trans hx5 (fun k hk e => by rcases e with e | e | e <;> omega)
      have e1 : bDs ds [((0, [111, 108, 100]), [118])] X = ds := by unfold bDs; rw [if_neg (by rw [HERR.out]; rintro ⟨q, _⟩; cases q)]
      have e2 : bM [((0, [111, 108, 100]), [118])] X = [((0, [111, 108, 100]), [118])] := by unfold bM; rw [if_neg (by rw [HERR.out]; simp)]
      rw [e1, e2] at hSt5'
      rw [HERR.out]
      have hm7 := hSt5'.mp
      have hb7 := hSt5'.blk
      have hD7 := hSt5'.dk
      clear e1 e2 hSt5' hx5 ho3 hXok hW3
      go_wp2_with fail
      refine (kvlen_any u5 s j b' _ hb7 hm7 (by simp)).mono ?_
      rintro e _ ⟨rfl, rfl⟩
      clear hm7 hb7
      go_wp2_with fail
      refine (log_any' u5 g ds _ hD7 hok).mono ?_
      rintro e u6 ⟨a6, c6, rfl, o6, x6⟩
      have cv6 := convStr u6 a6 _ c6 ds.log rfl o6.rd
      have q6 : ((str ds.log).toList == (str ds.log).toList) = true := beqStrT rfl
      have hD8 := hD7.no x6
      clear o6 hD7
      go_wp2_with fail
      refine (snap_any u6 g ds _ hD8 hok).mono ?_
      rintro e u7 ⟨a7, c7, rfl, o7, x7⟩
      have cv7 := convStr u7 a7 _ c7 ds.snap rfl o7.rd
      have q7 : ((str ds.snap).toList == (str ds.snap).toList) = true := beqStrT rfl
      clear o7 hD8
      go_wp2_with fail
      go_ret
      exact ⟨rfl, (hW7.comp x6).comp x7⟩
    · have d9 : decide ((20 : Int) < (X.length : Int)) = false := decF (by omega)
      have hERR : kvErr [((0, [111, 108, 100]), [118])] X = 1 := by rw [hX']; exact (mix_err _ G P _ HGe.out hPG (by rw [hbe]; omega) (by rw [← hX']; exact h20)).trans hbe
      have HERR := Lib.hid hERR
      clear hERR hX' hbe
      go_wp2_with fail
      refine (kvget_any u3 s j b1 _ 0 [111, 108, 100] hSt.blk hSt.mp ⟨⟨by omega, by omega⟩, by unfold maxLen; simp⟩).mono ?_
      rintro e _ ⟨rfl, rfl⟩
      have g1 : (kvGet [((0, [111, 108, 100]), [118])] (0, [111, 108, 100])).getD [] = [118] := by decide
      have g2 : kvHas [((0, [111, 108, 100]), [118])] (0, [111, 108, 100]) = true := by decide
      rw [g1, g2]
      clear g1 g2
      have q9 : ((str [118]).toList == [118]) = true := by rw [toList_str]; rfl
      have HS3 := Lib.hid hSt
      clear hSt
      go_wp2_with fail
      refine (kvapply_any u3 g s j b1 1 ds [((0, [111, 108, 100]), [118])] HS3.out hok hdn (by omega) (by simp) a3 X c3 ho3.rd hXok ho3.nc ho3.cm (fun h0 => by rw [HERR.out] at h0; cases h0)).mono ?_
      rintro e u5 ⟨rfl, b', hSt5', hb5, hx5⟩
      have hW7 := hW3.trans hx5 (fun k hk e => by rcases e with e | e | e <;> omega)
      have e1 : bDs ds [((0, [111, 108, 100]), [118])] X = ds := by unfold bDs; rw [if_neg (by rw [HERR.out]; rintro ⟨q, _⟩; cases q)]
      have e2 : bM [((0, [111, 108, 100]), [118])] X = [((0, [111, 108, 100]), [118])] := by unfold bM; rw [if_neg (by rw [HERR.out]; simp)]
      rw [e1, e2] at hSt5'
      rw [HERR.out]
      have hm7 := hSt5'.mp
      have hb7 := hSt5'.blk
      have hD7 := hSt5'.dk
      clear e1 e2 hSt5' hx5 ho3 hXok hW3
      go_wp2_with fail
      refine (kvlen_any u5 s j b' _ hb7 hm7 (by simp)).mono ?_
      rintro e _ ⟨rfl, rfl⟩
      clear hm7 hb7
      go_wp2_with fail
      refine (log_any' u5 g ds _ hD7 hok).mono ?_
      rintro e u6 ⟨a6, c6, rfl, o6, x6⟩
      have cv6 := convStr u6 a6 _ c6 ds.log rfl o6.rd
      have q6 : ((str ds.log).toList == (str ds.log).toList) = true := beqStrT rfl
      have hD8 := hD7.no x6
      clear o6 hD7
      go_wp2_with fail
      refine (snap_any u6 g ds _ hD8 hok).mono ?_
      rintro e u7 ⟨a7, c7, rfl, o7, x7⟩
      have cv7 := convStr u7 a7 _ c7 ds.snap rfl o7.rd
      have q7 : ((str ds.snap).toList == (str ds.snap).toList) = true := beqStrT rfl
      clear o7 hD8
      go_wp2_with fail
      go_ret
      exact ⟨rfl, (hW7.comp x6).comp x7⟩
  by_cases hk : k = 1
  · have b0_ : (k == 0) = false := by rw [beq_eq_false_iff_ne]; omega
    have b1_ : (k == 1) = true := by rw [beq_iff_eq]; exact hk
    clear hk hk0 hk5
    have cb := hX.cell 1 _ rfl
    have fb := hX.fr 1
    go_upto_region 28 with fail
    have bX := hX.set 1 (.string { data := #[] }) (by simp)
    have hx : Ext no w5 _ := hx6.trans (Ext.setCell (S := just gx) w6 ⟨gx, 1, none⟩ (.string { data := #[] }) rfl) (fun q hq e => by have e : q = gx := e; omega)
    clear cb fb
    generalize w6.setCell ⟨gx, 1, none⟩ (.string { data := #[] }) = w7 at *
    have hbe : chErr (⟨0, [], [118], false⟩ : ChangeR) = 5 := by decide
    have hbo : ChangeR.ok (⟨0, [], [118], false⟩ : ChangeR) := ⟨⟨by decide, by decide⟩, by decide, by decide⟩
    have hz0 := bX.cell 0 _ rfl
    have hz1 := bX.cell 1 _ rfl
    have hz2 := bX.cell 2 _ rfl
    have hz3 := bX.cell 3 _ rfl
    have hw5W := hx.size
    go_wp2_with fail
    refine (kvwithin_any pt (G.length + 1) w7 (by omega) (by omega) hpt).mono ?_
    rintro e _ ⟨rfl, rfl⟩
    have hp0 := Int.emod_nonneg pt (show ((G.length : Int) + 1) ≠ 0 by omega)
    have hp1 := Int.emod_lt_of_pos pt (show (0 : Int) < (G.length : Int) + 1 by omega)
    obtain ⟨P, hP⟩ : ∃ P : Nat, pt % ((G.length : Int) + 1) = (P : Int) := ⟨(pt % ((G.length : Int) + 1)).toNat, (Int.toNat_of_nonneg hp0).symm⟩
    rw [hP] at hp0 hp1 ⊢
    have hPG : P ≤ G.length := by omega
    clear hP hp0 hp1
    have hA0 : Ext no w5 (w7.alloc (.cells #[] 39)) := hx.comp (Ext.alloc no _ _)
    have hf : Rd (w7.alloc (.cells #[] 39)) ga (rows ChangeR.cells (G.take P)) := by have q := (hGr.ext hA0 (fun _ _ h => h)).take (P * 4); rwa [rows_take kChange] at q
    obtain ⟨B, hBB⟩ : ∃ B, B = w7.heap.size := ⟨_, rfl⟩
    have hz : Own (w7.alloc (.cells #[] 39)) B (some ⟨w7.heap.size, 0, none⟩) 4 0 0 [] := by rw [hBB]; exact Own.fresh w7 _ _ _ _ _ _ _ _ (Nat.le_refl _) (by simp) (Nat.le_refl _) (Nat.zero_le _) (by simp) (by simp) (.inl (Nat.le_refl _))
    have hcA : ∀ w, (Instr.sliceAt 36 (.slice ga G.length gc) none (some (.int .i64 (P : Int))) none).run Try.prog w = .ok (.slice ga P gc) w := fun w => run_cut_h TChange w ga _ gc .i64 P (by omega)
    have hBx := bX.lt (by simp)
    have hB1 : gx < B := by omega
    have hB2 : w5.heap.size ≤ B := by omega
    have hB3 : B ≤ w7.heap.size := by omega
    have hB4 : w7.heap.size ≤ B := by omega
    clear hBB
    go_wp2_with (at_builtin; refine wpList_append TChange rfl rfl rfl hz rfl hf (by rw [rows_length kChange, List.length_take]; congr 1; omega) (oneChange _) ?c1 ?c2 (by simp; omega) ?_)
    case c1 => unfold maxLen; omega
    case c2 => omega
    intro a1 c1 u1 hp1
    try rw [Nat.zero_add]
    have ho1 := hp1.own
    rw [Nat.zero_add, List.nil_append] at ho1
    have hxA : Ext no w7 u1 := (Ext.alloc no _ _).trans hp1.ext (fun k hk => by rintro ⟨ad, h, hb⟩; cases h; simp only at hb; omega)
    have hBs : B ≤ u1.heap.size := by have := hxA.size; omega
    have b1X := bX.ext (by simp) hxA (fun h => h)
    replace hx := hx.comp hxA
    clear hp1 hz hf hcA hB3 hB4 hA0 hxA bX hz0 hz1 hz2 hz3
    have hz0 := b1X.cell 0 _ rfl
    have hz1 := b1X.cell 1 _ rfl
    have hz2 := b1X.cell 2 _ rfl
    have hz3 := b1X.cell 3 _ rfl
    have hX1 : Rd (u1.alloc (.cells #[.int .i64 0, .string { data := #[] }, .string { data := #[118] }, .bool false] 39)) (some ⟨u1.heap.size, 0, none⟩) (ChangeR.cells (⟨0, [], [118], false⟩ : ChangeR)) := Rd.lit u1 #[.int .i64 0, .string { data := #[] }, .string { data := #[118] }, .bool false] _ _
    go_wp2_with (at_builtin; refine wpList_append TChange rfl rfl rfl (ho1.alloc _) rfl hX1 rfl (one1Change (⟨0, [], [118], false⟩ : ChangeR)) ?c1 ?c2 ?c3 ?_)
    case c1 => unfold maxLen; omega
    case c2 => omega
    case c3 => first | omega | (simp; omega)
    intro a2 c2 u2 hp2
    have ho2 := hp2.own
    have hxB : Ext no w5 u2 := (hx.comp (Ext.alloc no u1 (.cells #[.int .i64 0, .string { data := #[] }, .string { data := #[118] }, .bool false] 39))).trans hp2.ext (fun k hk => by rintro ⟨ad, h, hb⟩; have := (ho1.base ad h).1; omega)
    have hzB : B ≤ u2.heap.size := Nat.le_trans hBs (Nat.le_trans (Ext.alloc no u1 (.cells #[.int .i64 0, .string { data := #[] }, .string { data := #[118] }, .bool false] 39)).size hp2.ext.size)
    clear hp2 hX1 ho1 b1X hx hz0 hz1 hz2 hz3
    have hcC : ∀ w, (Instr.sliceAt 36 (.slice ga G.length gc) (some (.int .i64 (P : Int))) none none).run Try.prog w = .ok (.slice (cutAt ga gc P 4) (G.length - P) (gc - P)) w := fun w => run_cut_l TChange w ga _ gc .i64 P (by omega)
    have hf2 : Rd u2 (cutAt ga gc P 4) (rows ChangeR.cells (G.drop P)) := by have q := (hGr.ext hxB (fun _ _ h => h)).cutAt gc P 4 (fun e => by rw [rows_length kChange]; exact Nat.mul_le_mul_right _ (by omega)); rwa [rows_drop kChange] at q
    go_wp2_with (at_builtin; refine wpList_append TChange rfl rfl rfl ho2 rfl hf2 (by rw [rows_length kChange, List.length_drop]) (oneChange _) ?c1 ?c2 ?c3 ?_)
    case c1 => unfold maxLen; omega
    case c2 => omega
    case c3 => omega
    intro a3 c3 u3 hp3
    obtain ⟨X, hX'⟩ : ∃ X, X = G.take P ++ [(⟨0, [], [118], false⟩ : ChangeR)] ++ G.drop P := ⟨_, rfl⟩
    have hXn : P + 1 + (G.length - P) = X.length := by rw [hX', List.length_append, List.length_append, List.length_take, List.length_drop, List.length_singleton]; omega
    have ho3 : Own u3 B a3 4 X.length c3 (rows ChangeR.cells X) := by have q := hp3.own; rw [← hXn, hX', rows_append, rows_append, rows_one]; exact q
    have hxC : Ext no w5 u3 := hxB.trans hp3.ext (fun k hk => by rintro ⟨ad, h, hb⟩; have := (ho2.base ad h).1; omega)
    have hXok : ∀ c ∈ X, c.ok := fun c hc => by
      rw [hX'] at hc
      rcases List.mem_append.1 hc with hc | hc
      · rcases List.mem_append.1 hc with hc | hc
        · exact HGo.out c (List.mem_of_mem_take hc)
        · rw [List.mem_singleton] at hc; rw [hc]; exact hbo
      · exact HGo.out c (List.mem_of_mem_drop hc)
    have hSt := HSt5.out.no hxC
    have hW3 := hW5.comp hxC
    rw [hXn]
    clear hp3 hf2 hcC hxB hxC ho2 hXn hbo hGr
    by_cases h20 : 20 < X.length
    · have d9 : decide ((20 : Int) < (X.length : Int)) = true := decT (by omega)
      have hERR : kvErr [((0, [111, 108, 100]), [118])] X = 4 := by rw [hX']; exact (by unfold kvErr; rw [if_pos (by rw [← hX']; exact h20)])
      have HERR := Lib.hid hERR
      clear hERR hX' hbe
      go_wp2_with fail
      refine (kvget_any u3 s j b1 _ 0 [111, 108, 100] hSt.blk hSt.mp ⟨⟨by omega, by omega⟩, by unfold maxLen; simp⟩).mono ?_
      rintro e _ ⟨rfl, rfl⟩
      have g1 : (kvGet [((0, [111, 108, 100]), [118])] (0, [111, 108, 100])).getD [] = [118] := by decide
      have g2 : kvHas [((0, [111, 108, 100]), [118])] (0, [111, 108, 100]) = true := by decide
      rw [g1, g2]
      clear g1 g2
      have q9 : ((str [118]).toList == [118]) = true := by rw [toList_str]; rfl
      have HS3 := Lib.hid hSt
      clear hSt
      go_wp2_with fail
      refine (kvapply_any u3 g s j b1 1 ds [((0, [111, 108, 100]), [118])] HS3.out hok hdn (by omega) (by simp) a3 X c3 ho3.rd hXok ho3.nc ho3.cm (fun h0 => by rw [HERR.out] at h0; cases h0)).mono ?_
      rintro e u5 ⟨rfl, b', hSt5', hb5, hx5⟩
      have hW7 := hW3.trans hx5 (fun k hk e => by rcases e with e | e | e <;> omega)
      have e1 : bDs ds [((0, [111, 108, 100]), [118])] X = ds := by unfold bDs; rw [if_neg (by rw [HERR.out]; rintro ⟨q, _⟩; cases q)]
      have e2 : bM [((0, [111, 108, 100]), [118])] X = [((0, [111, 108, 100]), [118])] := by unfold bM; rw [if_neg (by rw [HERR.out]; simp)]
      rw [e1, e2] at hSt5'
      rw [HERR.out]
      have hm7 := hSt5'.mp
      have hb7 := hSt5'.blk
      have hD7 := hSt5'.dk
      clear e1 e2 hSt5' hx5 ho3 hXok hW3
      go_wp2_with fail
      refine (kvlen_any u5 s j b' _ hb7 hm7 (by simp)).mono ?_
      rintro e _ ⟨rfl, rfl⟩
      clear hm7 hb7
      go_wp2_with fail
      refine (log_any' u5 g ds _ hD7 hok).mono ?_
      rintro e u6 ⟨a6, c6, rfl, o6, x6⟩
      have cv6 := convStr u6 a6 _ c6 ds.log rfl o6.rd
      have q6 : ((str ds.log).toList == (str ds.log).toList) = true := beqStrT rfl
      have hD8 := hD7.no x6
      clear o6 hD7
      go_wp2_with fail
      refine (snap_any u6 g ds _ hD8 hok).mono ?_
      rintro e u7 ⟨a7, c7, rfl, o7, x7⟩
      have cv7 := convStr u7 a7 _ c7 ds.snap rfl o7.rd
      have q7 : ((str ds.snap).toList == (str ds.snap).toList) = true := beqStrT rfl
      clear o7 hD8
      go_wp2_with fail
      go_ret
      exact ⟨rfl, (hW7.comp x6).comp x7⟩
    · have d9 : decide ((20 : Int) < (X.length : Int)) = false := decF (by omega)
      have hERR : kvErr [((0, [111, 108, 100]), [118])] X = 5 := by rw [hX']; exact (mix_err _ G P _ HGe.out hPG (by rw [hbe]; omega) (by rw [← hX']; exact h20)).trans hbe
      have HERR := Lib.hid hERR
      clear hERR hX' hbe
      go_wp2_with fail
      refine (kvget_any u3 s j b1 _ 0 [111, 108, 100] hSt.blk hSt.mp ⟨⟨by omega, by omega⟩, by unfold maxLen; simp⟩).mono ?_
      rintro e _ ⟨rfl, rfl⟩
      have g1 : (kvGet [((0, [111, 108, 100]), [118])] (0, [111, 108, 100])).getD [] = [118] := by decide
      have g2 : kvHas [((0, [111, 108, 100]), [118])] (0, [111, 108, 100]) = true := by decide
      rw [g1, g2]
      clear g1 g2
      have q9 : ((str [118]).toList == [118]) = true := by rw [toList_str]; rfl
      have HS3 := Lib.hid hSt
      clear hSt
      go_wp2_with fail
      refine (kvapply_any u3 g s j b1 1 ds [((0, [111, 108, 100]), [118])] HS3.out hok hdn (by omega) (by simp) a3 X c3 ho3.rd hXok ho3.nc ho3.cm (fun h0 => by rw [HERR.out] at h0; cases h0)).mono ?_
      rintro e u5 ⟨rfl, b', hSt5', hb5, hx5⟩
      have hW7 := hW3.trans hx5 (fun k hk e => by rcases e with e | e | e <;> omega)
      have e1 : bDs ds [((0, [111, 108, 100]), [118])] X = ds := by unfold bDs; rw [if_neg (by rw [HERR.out]; rintro ⟨q, _⟩; cases q)]
      have e2 : bM [((0, [111, 108, 100]), [118])] X = [((0, [111, 108, 100]), [118])] := by unfold bM; rw [if_neg (by rw [HERR.out]; simp)]
      rw [e1, e2] at hSt5'
      rw [HERR.out]
      have hm7 := hSt5'.mp
      have hb7 := hSt5'.blk
      have hD7 := hSt5'.dk
      clear e1 e2 hSt5' hx5 ho3 hXok hW3
      go_wp2_with fail
      refine (kvlen_any u5 s j b' _ hb7 hm7 (by simp)).mono ?_
      rintro e _ ⟨rfl, rfl⟩
      clear hm7 hb7
      go_wp2_with fail
      refine (log_any' u5 g ds _ hD7 hok).mono ?_
      rintro e u6 ⟨a6, c6, rfl, o6, x6⟩
      have cv6 := convStr u6 a6 _ c6 ds.log rfl o6.rd
      have q6 : ((str ds.log).toList == (str ds.log).toList) = true := beqStrT rfl
      have hD8 := hD7.no x6
      clear o6 hD7
      go_wp2_with fail
      refine (snap_any u6 g ds _ hD8 hok).mono ?_
      rintro e u7 ⟨a7, c7, rfl, o7, x7⟩
      have cv7 := convStr u7 a7 _ c7 ds.snap rfl o7.rd
      have q7 : ((str ds.snap).toList == (str ds.snap).toList) = true := beqStrT rfl
      clear o7 hD8
      go_wp2_with fail
      go_ret
      exact ⟨rfl, (hW7.comp x6).comp x7⟩
  by_cases hk : k = 2
  · have b0_ : (k == 0) = false := by rw [beq_eq_false_iff_ne]; omega
    have b1_ : (k == 1) = false := by rw [beq_eq_false_iff_ne]; omega
    have b2_ : (k == 2) = true := by rw [beq_iff_eq]; exact hk
    clear hk hk0 hk5
    go_wp2_with (with_reducible refine wpList_make_z TBytes rfl rfl rfl 3 rfl rfl rfl rfl w6.heap.size (Nat.le_refl _) (by omega) (by unfold maxLen; omega) ?_)
    intro ad w7 hmk hx7
    have cvz : (convert 37 9 (.slice (some ad) 3 3)).run Try.prog w7 = .ok (.string (str [0, 0, 0])) w7 := convStr w7 (some ad) 3 3 [0, 0, 0] rfl hmk.rd
    have hX7 := hX.ext (by simp) hx7 (fun h => h)
    have hx67 := hx6.comp hx7
    clear hmk
    have cb := hX7.cell 1 _ rfl
    have fb := hX7.fr 1
    go_upto_region 28 with fail
    have bX := hX7.set 1 (.string (str [0, 0, 0])) (by simp)
    have hx : Ext no w5 _ := hx67.trans (Ext.setCell (S := just gx) w7 ⟨gx, 1, none⟩ (.string (str [0, 0, 0])) rfl) (fun q hq e => by have e : q = gx := e; omega)
    clear cb fb
    generalize w7.setCell ⟨gx, 1, none⟩ (.string (str [0, 0, 0])) = w8 at *
    have hbe : chErr (⟨0, [0, 0, 0], [118], false⟩ : ChangeR) = 5 := by decide
    have hbo : ChangeR.ok (⟨0, [0, 0, 0], [118], false⟩ : ChangeR) := ⟨⟨by decide, by decide⟩, by decide, by decide⟩
    have hz0 := bX.cell 0 _ rfl
    have hz1 := bX.cell 1 _ rfl
    have hz2 := bX.cell 2 _ rfl
    have hz3 := bX.cell 3 _ rfl
    have hw5W := hx.size
    go_wp2_with fail
    refine (kvwithin_any pt (G.length + 1) w8 (by omega) (by omega) hpt).mono ?_
    rintro e _ ⟨rfl, rfl⟩
    have hp0 := Int.emod_nonneg pt (show ((G.length : Int) + 1) ≠ 0 by omega)
    have hp1 := Int.emod_lt_of_pos pt (show (0 : Int) < (G.length : Int) + 1 by omega)
    obtain ⟨P, hP⟩ : ∃ P : Nat, pt % ((G.length : Int) + 1) = (P : Int) := ⟨(pt % ((G.length : Int) + 1)).toNat, (Int.toNat_of_nonneg hp0).symm⟩
    rw [hP] at hp0 hp1 ⊢
    have hPG : P ≤ G.length := by omega
    clear hP hp0 hp1
    have hA0 : Ext no w5 (w8.alloc (.cells #[] 39)) := hx.comp (Ext.alloc no _ _)
    have hf : Rd (w8.alloc (.cells #[] 39)) ga (rows ChangeR.cells (G.take P)) := by have q := (hGr.ext hA0 (fun _ _ h => h)).take (P * 4); rwa [rows_take kChange] at q
    obtain ⟨B, hBB⟩ : ∃ B, B = w8.heap.size := ⟨_, rfl⟩
    have hz : Own (w8.alloc (.cells #[] 39)) B (some ⟨w8.heap.size, 0, none⟩) 4 0 0 [] := by rw [hBB]; exact Own.fresh w8 _ _ _ _ _ _ _ _ (Nat.le_refl _) (by simp) (Nat.le_refl _) (Nat.zero_le _) (by simp) (by simp) (.inl (Nat.le_refl _))
    have hcA : ∀ w, (Instr.sliceAt 36 (.slice ga G.length gc) none (some (.int .i64 (P : Int))) none).run Try.prog w = .ok (.slice ga P gc) w := fun w => run_cut_h TChange w ga _ gc .i64 P (by omega)
    have hBx := bX.lt (by simp)
    have hB1 : gx < B := by omega
    have hB2 : w5.heap.size ≤ B := by omega
    have hB3 : B ≤ w8.heap.size := by omega
    have hB4 : w8.heap.size ≤ B := by omega
    clear hBB
    go_wp2_with (at_builtin; refine wpList_append TChange rfl rfl rfl hz rfl hf (by rw [rows_length kChange, List.length_take]; congr 1; omega) (oneChange _) ?c1 ?c2 (by simp; omega) ?_)
    case c1 => unfold maxLen; omega
    case c2 => omega
    intro a1 c1 u1 hp1
    try rw [Nat.zero_add]
    have ho1 := hp1.own
    rw [Nat.zero_add, List.nil_append] at ho1
    have hxA : Ext no w8 u1 := (Ext.alloc no _ _).trans hp1.ext (fun k hk => by rintro ⟨ad, h, hb⟩; cases h; simp only at hb; omega)
    have hBs : B ≤ u1.heap.size := by have := hxA.size; omega
    have b1X := bX.ext (by simp) hxA (fun h => h)
    replace hx := hx.comp hxA
    clear hp1 hz hf hcA hB3 hB4 hA0 hxA bX hz0 hz1 hz2 hz3
    have hz0 := b1X.cell 0 _ rfl
    have hz1 := b1X.cell 1 _ rfl
    have hz2 := b1X.cell 2 _ rfl
    have hz3 := b1X.cell 3 _ rfl
    have hX1 : Rd (u1.alloc (.cells #[.int .i64 0, .string (str [0, 0, 0]), .string { data := #[118] }, .bool false] 39)) (some ⟨u1.heap.size, 0, none⟩) (ChangeR.cells (⟨0, [0, 0, 0], [118], false⟩ : ChangeR)) := Rd.lit u1 #[.int .i64 0, .string (str [0, 0, 0]), .string { data := #[118] }, .bool false] _ _
    go_wp2_with (at_builtin; refine wpList_append TChange rfl rfl rfl (ho1.alloc _) rfl hX1 rfl (one1Change (⟨0, [0, 0, 0], [118], false⟩ : ChangeR)) ?c1 ?c2 ?c3 ?_)
    case c1 => unfold maxLen; omega
    case c2 => omega
    case c3 => first | omega | (simp; omega)
    intro a2 c2 u2 hp2
    have ho2 := hp2.own
    have hxB : Ext no w5 u2 := (hx.comp (Ext.alloc no u1 (.cells #[.int .i64 0, .string (str [0, 0, 0]), .string { data := #[118] }, .bool false] 39))).trans hp2.ext (fun k hk => by rintro ⟨ad, h, hb⟩; have := (ho1.base ad h).1; omega)
    have hzB : B ≤ u2.heap.size := Nat.le_trans hBs (Nat.le_trans (Ext.alloc no u1 (.cells #[.int .i64 0, .string (str [0, 0, 0]), .string { data := #[118] }, .bool false] 39)).size hp2.ext.size)
    clear hp2 hX1 ho1 b1X hx hz0 hz1 hz2 hz3
    have hcC : ∀ w, (Instr.sliceAt 36 (.slice ga G.length gc) (some (.int .i64 (P : Int))) none none).run Try.prog w = .ok (.slice (cutAt ga gc P 4) (G.length - P) (gc - P)) w := fun w => run_cut_l TChange w ga _ gc .i64 P (by omega)
    have hf2 : Rd u2 (cutAt ga gc P 4) (rows ChangeR.cells (G.drop P)) := by have q := (hGr.ext hxB (fun _ _ h => h)).cutAt gc P 4 (fun e => by rw [rows_length kChange]; exact Nat.mul_le_mul_right _ (by omega)); rwa [rows_drop kChange] at q
    go_wp2_with (at_builtin; refine wpList_append TChange rfl rfl rfl ho2 rfl hf2 (by rw [rows_length kChange, List.length_drop]) (oneChange _) ?c1 ?c2 ?c3 ?_)
    case c1 => unfold maxLen; omega
    case c2 => omega
    case c3 => omega
    intro a3 c3 u3 hp3
    obtain ⟨X, hX'⟩ : ∃ X, X = G.take P ++ [(⟨0, [0, 0, 0], [118], false⟩ : ChangeR)] ++ G.drop P := ⟨_, rfl⟩
    have hXn : P + 1 + (G.length - P) = X.length := by rw [hX', List.length_append, List.length_append, List.length_take, List.length_drop, List.length_singleton]; omega
    have ho3 : Own u3 B a3 4 X.length c3 (rows ChangeR.cells X) := by have q := hp3.own; rw [← hXn, hX', rows_append, rows_append, rows_one]; exact q
    have hxC : Ext no w5 u3 := hxB.trans hp3.ext (fun k hk => by rintro ⟨ad, h, hb⟩; have := (ho2.base ad h).1; omega)
    have hXok : ∀ c ∈ X, c.ok := fun c hc => by
      rw [hX'] at hc
      rcases List.mem_append.1 hc with hc | hc
      · rcases List.mem_append.1 hc with hc | hc
        · exact HGo.out c (List.mem_of_mem_take hc)
        · rw [List.mem_singleton] at hc; rw [hc]; exact hbo
      · exact HGo.out c (List.mem_of_mem_drop hc)
    have hSt := HSt5.out.no hxC
    have hW3 := hW5.comp hxC
    rw [hXn]
    clear hp3 hf2 hcC hxB hxC ho2 hXn hbo hGr
    by_cases h20 : 20 < X.length
    · have d9 : decide ((20 : Int) < (X.length : Int)) = true := decT (by omega)
      have hERR : kvErr [((0, [111, 108, 100]), [118])] X = 4 := by rw [hX']; exact (by unfold kvErr; rw [if_pos (by rw [← hX']; exact h20)])
      have HERR := Lib.hid hERR
      clear hERR hX' hbe
      go_wp2_with fail
      refine (kvget_any u3 s j b1 _ 0 [111, 108, 100] hSt.blk hSt.mp ⟨⟨by omega, by omega⟩, by unfold maxLen; simp⟩).mono ?_
      rintro e _ ⟨rfl, rfl⟩
      have g1 : (kvGet [((0, [111, 108, 100]), [118])] (0, [111, 108, 100])).getD [] = [118] := by decide
      have g2 : kvHas [((0, [111, 108, 100]), [118])] (0, [111, 108, 100]) = true := by decide
      rw [g1, g2]
      clear g1 g2
      have q9 : ((str [118]).toList == [118]) = true := by rw [toList_str]; rfl
      have HS3 := Lib.hid hSt
      clear hSt
      go_wp2_with fail
      refine (kvapply_any u3 g s j b1 1 ds [((0, [111, 108, 100]), [118])] HS3.out hok hdn (by omega) (by simp) a3 X c3 ho3.rd hXok ho3.nc ho3.cm (fun h0 => by rw [HERR.out] at h0; cases h0)).mono ?_
      rintro e u5 ⟨rfl, b', hSt5', hb5, hx5⟩
      have hW7 := hW3.trans hx5 (fun k hk e => by rcases e with e | e | e <;> omega)
      have e1 : bDs ds [((0, [111, 108, 100]), [118])] X = ds := by unfold bDs; rw [if_neg (by rw [HERR.out]; rintro ⟨q, _⟩; cases q)]
      have e2 : bM [((0, [111, 108, 100]), [118])] X = [((0, [111, 108, 100]), [118])] := by unfold bM; rw [if_neg (by rw [HERR.out]; simp)]
      rw [e1, e2] at hSt5'
      rw [HERR.out]
      have hm7 := hSt5'.mp
      have hb7 := hSt5'.blk
      have hD7 := hSt5'.dk
      clear e1 e2 hSt5' hx5 ho3 hXok hW3
      go_wp2_with fail
      refine (kvlen_any u5 s j b' _ hb7 hm7 (by simp)).mono ?_
      rintro e _ ⟨rfl, rfl⟩
      clear hm7 hb7
      go_wp2_with fail
      refine (log_any' u5 g ds _ hD7 hok).mono ?_
      rintro e u6 ⟨a6, c6, rfl, o6, x6⟩
      have cv6 := convStr u6 a6 _ c6 ds.log rfl o6.rd
      have q6 : ((str ds.log).toList == (str ds.log).toList) = true := beqStrT rfl
      have hD8 := hD7.no x6
      clear o6 hD7
      go_wp2_with fail
      refine (snap_any u6 g ds _ hD8 hok).mono ?_
      rintro e u7 ⟨a7, c7, rfl, o7, x7⟩
      have cv7 := convStr u7 a7 _ c7 ds.snap rfl o7.rd
      have q7 : ((str ds.snap).toList == (str ds.snap).toList) = true := beqStrT rfl
      clear o7 hD8
      go_wp2_with fail
      go_ret
      exact ⟨rfl, (hW7.comp x6).comp x7⟩
    · have d9 : decide ((20 : Int) < (X.length : Int)) = false := decF (by omega)
      have hERR : kvErr [((0, [111, 108, 100]), [118])] X = 5 := by rw [hX']; exact (mix_err _ G P _ HGe.out hPG (by rw [hbe]; omega) (by rw [← hX']; exact h20)).trans hbe
      have HERR := Lib.hid hERR
      clear hERR hX' hbe
      go_wp2_with fail
      refine (kvget_any u3 s j b1 _ 0 [111, 108, 100] hSt.blk hSt.mp ⟨⟨by omega, by omega⟩, by unfold maxLen; simp⟩).mono ?_
      rintro e _ ⟨rfl, rfl⟩
      have g1 : (kvGet [((0, [111, 108, 100]), [118])] (0, [111, 108, 100])).getD [] = [118] := by decide
      have g2 : kvHas [((0, [111, 108, 100]), [118])] (0, [111, 108, 100]) = true := by decide
      rw [g1, g2]
      clear g1 g2
      have q9 : ((str [118]).toList == [118]) = true := by rw [toList_str]; rfl
      have HS3 := Lib.hid hSt
      clear hSt
      go_wp2_with fail
      refine (kvapply_any u3 g s j b1 1 ds [((0, [111, 108, 100]), [118])] HS3.out hok hdn (by omega) (by simp) a3 X c3 ho3.rd hXok ho3.nc ho3.cm (fun h0 => by rw [HERR.out] at h0; cases h0)).mono ?_
      rintro e u5 ⟨rfl, b', hSt5', hb5, hx5⟩
      have hW7 := hW3.trans hx5 (fun k hk e => by rcases e with e | e | e <;> omega)
      have e1 : bDs ds [((0, [111, 108, 100]), [118])] X = ds := by unfold bDs; rw [if_neg (by rw [HERR.out]; rintro ⟨q, _⟩; cases q)]
      have e2 : bM [((0, [111, 108, 100]), [118])] X = [((0, [111, 108, 100]), [118])] := by unfold bM; rw [if_neg (by rw [HERR.out]; simp)]
      rw [e1, e2] at hSt5'
      rw [HERR.out]
      have hm7 := hSt5'.mp
      have hb7 := hSt5'.blk
      have hD7 := hSt5'.dk
      clear e1 e2 hSt5' hx5 ho3 hXok hW3
      go_wp2_with fail
      refine (kvlen_any u5 s j b' _ hb7 hm7 (by simp)).mono ?_
      rintro e _ ⟨rfl, rfl⟩
      clear hm7 hb7
      go_wp2_with fail
      refine (log_any' u5 g ds _ hD7 hok).mono ?_
      rintro e u6 ⟨a6, c6, rfl, o6, x6⟩
      have cv6 := convStr u6 a6 _ c6 ds.log rfl o6.rd
      have q6 : ((str ds.log).toList == (str ds.log).toList) = true := beqStrT rfl
      have hD8 := hD7.no x6
      clear o6 hD7
      go_wp2_with fail
      refine (snap_any u6 g ds _ hD8 hok).mono ?_
      rintro e u7 ⟨a7, c7, rfl, o7, x7⟩
      have cv7 := convStr u7 a7 _ c7 ds.snap rfl o7.rd
      have q7 : ((str ds.snap).toList == (str ds.snap).toList) = true := beqStrT rfl
      clear o7 hD8
      go_wp2_with fail
      go_ret
      exact ⟨rfl, (hW7.comp x6).comp x7⟩
  by_cases hk : k = 3
  · have b0_ : (k == 0) = false := by rw [beq_eq_false_iff_ne]; omega
    have b1_ : (k == 1) = false := by rw [beq_eq_false_iff_ne]; omega
    have b2_ : (k == 2) = false := by rw [beq_eq_false_iff_ne]; omega
    have b3_ : (k == 3) = true := by rw [beq_iff_eq]; exact hk
    clear hk hk0 hk5
    have cb := hX.cell 2 _ rfl
    have fb := hX.fr 2
    go_upto_region 28 with fail
    have bX := hX.set 2 (.string { data := #[10] }) (by simp)
    have hx : Ext no w5 _ := hx6.trans (Ext.setCell (S := just gx) w6 ⟨gx, 2, none⟩ (.string { data := #[10] }) rfl) (fun q hq e => by have e : q = gx := e; omega)
    clear cb fb
    generalize w6.setCell ⟨gx, 2, none⟩ (.string { data := #[10] }) = w7 at *
    have hbe : chErr (⟨0, [107], [10], false⟩ : ChangeR) = 5 := by decide
    have hbo : ChangeR.ok (⟨0, [107], [10], false⟩ : ChangeR) := ⟨⟨by decide, by decide⟩, by decide, by decide⟩
    have hz0 := bX.cell 0 _ rfl
    have hz1 := bX.cell 1 _ rfl
    have hz2 := bX.cell 2 _ rfl
    have hz3 := bX.cell 3 _ rfl
    have hw5W := hx.size
    go_wp2_with fail
    refine (kvwithin_any pt (G.length + 1) w7 (by omega) (by omega) hpt).mono ?_
    rintro e _ ⟨rfl, rfl⟩
    have hp0 := Int.emod_nonneg pt (show ((G.length : Int) + 1) ≠ 0 by omega)
    have hp1 := Int.emod_lt_of_pos pt (show (0 : Int) < (G.length : Int) + 1 by omega)
    obtain ⟨P, hP⟩ : ∃ P : Nat, pt % ((G.length : Int) + 1) = (P : Int) := ⟨(pt % ((G.length : Int) + 1)).toNat, (Int.toNat_of_nonneg hp0).symm⟩
    rw [hP] at hp0 hp1 ⊢
    have hPG : P ≤ G.length := by omega
    clear hP hp0 hp1
    have hA0 : Ext no w5 (w7.alloc (.cells #[] 39)) := hx.comp (Ext.alloc no _ _)
    have hf : Rd (w7.alloc (.cells #[] 39)) ga (rows ChangeR.cells (G.take P)) := by have q := (hGr.ext hA0 (fun _ _ h => h)).take (P * 4); rwa [rows_take kChange] at q
    obtain ⟨B, hBB⟩ : ∃ B, B = w7.heap.size := ⟨_, rfl⟩
    have hz : Own (w7.alloc (.cells #[] 39)) B (some ⟨w7.heap.size, 0, none⟩) 4 0 0 [] := by rw [hBB]; exact Own.fresh w7 _ _ _ _ _ _ _ _ (Nat.le_refl _) (by simp) (Nat.le_refl _) (Nat.zero_le _) (by simp) (by simp) (.inl (Nat.le_refl _))
    have hcA : ∀ w, (Instr.sliceAt 36 (.slice ga G.length gc) none (some (.int .i64 (P : Int))) none).run Try.prog w = .ok (.slice ga P gc) w := fun w => run_cut_h TChange w ga _ gc .i64 P (by omega)
    have hBx := bX.lt (by simp)
    have hB1 : gx < B := by omega
    have hB2 : w5.heap.size ≤ B := by omega
    have hB3 : B ≤ w7.heap.size := by omega
    have hB4 : w7.heap.size ≤ B := by omega
    clear hBB
    go_wp2_with (at_builtin; refine wpList_append TChange rfl rfl rfl hz rfl hf (by rw [rows_length kChange, List.length_take]; congr 1; omega) (oneChange _) ?c1 ?c2 (by simp; omega) ?_)
    case c1 => unfold maxLen; omega
    case c2 => omega
    intro a1 c1 u1 hp1
    try rw [Nat.zero_add]
    have ho1 := hp1.own
    rw [Nat.zero_add, List.nil_append] at ho1
    have hxA : Ext no w7 u1 := (Ext.alloc no _ _).trans hp1.ext (fun k hk => by rintro ⟨ad, h, hb⟩; cases h; simp only at hb; omega)
    have hBs : B ≤ u1.heap.size := by have := hxA.size; omega
    have b1X := bX.ext (by simp) hxA (fun h => h)
    replace hx := hx.comp hxA
    clear hp1 hz hf hcA hB3 hB4 hA0 hxA bX hz0 hz1 hz2 hz3
    have hz0 := b1X.cell 0 _ rfl
    have hz1 := b1X.cell 1 _ rfl
    have hz2 := b1X.cell 2 _ rfl
    have hz3 := b1X.cell 3 _ rfl
    have hX1 : Rd (u1.alloc (.cells #[.int .i64 0, .string { data := #[107] }, .string { data := #[10] }, .bool false] 39)) (some ⟨u1.heap.size, 0, none⟩) (ChangeR.cells (⟨0, [107], [10], false⟩ : ChangeR)) := Rd.lit u1 #[.int .i64 0, .string { data := #[107] }, .string { data := #[10] }, .bool false] _ _
    go_wp2_with (at_builtin; refine wpList_append TChange rfl rfl rfl (ho1.alloc _) rfl hX1 rfl (one1Change (⟨0, [107], [10], false⟩ : ChangeR)) ?c1 ?c2 ?c3 ?_)
    case c1 => unfold maxLen; omega
    case c2 => omega
    case c3 => first | omega | (simp; omega)
    intro a2 c2 u2 hp2
    have ho2 := hp2.own
    have hxB : Ext no w5 u2 := (hx.comp (Ext.alloc no u1 (.cells #[.int .i64 0, .string { data := #[107] }, .string { data := #[10] }, .bool false] 39))).trans hp2.ext (fun k hk => by rintro ⟨ad, h, hb⟩; have := (ho1.base ad h).1; omega)
    have hzB : B ≤ u2.heap.size := Nat.le_trans hBs (Nat.le_trans (Ext.alloc no u1 (.cells #[.int .i64 0, .string { data := #[107] }, .string { data := #[10] }, .bool false] 39)).size hp2.ext.size)
    clear hp2 hX1 ho1 b1X hx hz0 hz1 hz2 hz3
    have hcC : ∀ w, (Instr.sliceAt 36 (.slice ga G.length gc) (some (.int .i64 (P : Int))) none none).run Try.prog w = .ok (.slice (cutAt ga gc P 4) (G.length - P) (gc - P)) w := fun w => run_cut_l TChange w ga _ gc .i64 P (by omega)
    have hf2 : Rd u2 (cutAt ga gc P 4) (rows ChangeR.cells (G.drop P)) := by have q := (hGr.ext hxB (fun _ _ h => h)).cutAt gc P 4 (fun e => by rw [rows_length kChange]; exact Nat.mul_le_mul_right _ (by omega)); rwa [rows_drop kChange] at q
    go_wp2_with (at_builtin; refine wpList_append TChange rfl rfl rfl ho2 rfl hf2 (by rw [rows_length kChange, List.length_drop]) (oneChange _) ?c1 ?c2 ?c3 ?_)
    case c1 => unfold maxLen; omega
    case c2 => omega
    case c3 => omega
    intro a3 c3 u3 hp3
    obtain ⟨X, hX'⟩ : ∃ X, X = G.take P ++ [(⟨0, [107], [10], false⟩ : ChangeR)] ++ G.drop P := ⟨_, rfl⟩
    have hXn : P + 1 + (G.length - P) = X.length := by rw [hX', List.length_append, List.length_append, List.length_take, List.length_drop, List.length_singleton]; omega
    have ho3 : Own u3 B a3 4 X.length c3 (rows ChangeR.cells X) := by have q := hp3.own; rw [← hXn, hX', rows_append, rows_append, rows_one]; exact q
    have hxC : Ext no w5 u3 := hxB.trans hp3.ext (fun k hk => by rintro ⟨ad, h, hb⟩; have := (ho2.base ad h).1; omega)
    have hXok : ∀ c ∈ X, c.ok := fun c hc => by
      rw [hX'] at hc
      rcases List.mem_append.1 hc with hc | hc
      · rcases List.mem_append.1 hc with hc | hc
        · exact HGo.out c (List.mem_of_mem_take hc)
        · rw [List.mem_singleton] at hc; rw [hc]; exact hbo
      · exact HGo.out c (List.mem_of_mem_drop hc)
    have hSt := HSt5.out.no hxC
    have hW3 := hW5.comp hxC
    rw [hXn]
    clear hp3 hf2 hcC hxB hxC ho2 hXn hbo hGr
    by_cases h20 : 20 < X.length
    · have d9 : decide ((20 : Int) < (X.length : Int)) = true := decT (by omega)
      have hERR : kvErr [((0, [111, 108, 100]), [118])] X = 4 := by rw [hX']; exact (by unfold kvErr; rw [if_pos (by rw [← hX']; exact h20)])
      have HERR := Lib.hid hERR
      clear hERR hX' hbe
      go_wp2_with fail
      refine (kvget_any u3 s j b1 _ 0 [111, 108, 100] hSt.blk hSt.mp ⟨⟨by omega, by omega⟩, by unfold maxLen; simp⟩).mono ?_
      rintro e _ ⟨rfl, rfl⟩
      have g1 : (kvGet [((0, [111, 108, 100]), [118])] (0, [111, 108, 100])).getD [] = [118] := by decide
      have g2 : kvHas [((0, [111, 108, 100]), [118])] (0, [111, 108, 100]) = true := by decide
      rw [g1, g2]
      clear g1 g2
      have q9 : ((str [118]).toList == [118]) = true := by rw [toList_str]; rfl
      have HS3 := Lib.hid hSt
      clear hSt
      go_wp2_with fail
      refine (kvapply_any u3 g s j b1 1 ds [((0, [111, 108, 100]), [118])] HS3.out hok hdn (by omega) (by simp) a3 X c3 ho3.rd hXok ho3.nc ho3.cm (fun h0 => by rw [HERR.out] at h0; cases h0)).mono ?_
      rintro e u5 ⟨rfl, b', hSt5', hb5, hx5⟩
      have hW7 := hW3.trans hx5 (fun k hk e => by rcases e with e | e | e <;> omega)
      have e1 : bDs ds [((0, [111, 108, 100]), [118])] X = ds := by unfold bDs; rw [if_neg (by rw [HERR.out]; rintro ⟨q, _⟩; cases q)]
      have e2 : bM [((0, [111, 108, 100]), [118])] X = [((0, [111, 108, 100]), [118])] := by unfold bM; rw [if_neg (by rw [HERR.out]; simp)]
      rw [e1, e2] at hSt5'
      rw [HERR.out]
      have hm7 := hSt5'.mp
      have hb7 := hSt5'.blk
      have hD7 := hSt5'.dk
      clear e1 e2 hSt5' hx5 ho3 hXok hW3
      go_wp2_with fail
      refine (kvlen_any u5 s j b' _ hb7 hm7 (by simp)).mono ?_
      rintro e _ ⟨rfl, rfl⟩
      clear hm7 hb7
      go_wp2_with fail
      refine (log_any' u5 g ds _ hD7 hok).mono ?_
      rintro e u6 ⟨a6, c6, rfl, o6, x6⟩
      have cv6 := convStr u6 a6 _ c6 ds.log rfl o6.rd
      have q6 : ((str ds.log).toList == (str ds.log).toList) = true := beqStrT rfl
      have hD8 := hD7.no x6
      clear o6 hD7
      go_wp2_with fail
      refine (snap_any u6 g ds _ hD8 hok).mono ?_
      rintro e u7 ⟨a7, c7, rfl, o7, x7⟩
      have cv7 := convStr u7 a7 _ c7 ds.snap rfl o7.rd
      have q7 : ((str ds.snap).toList == (str ds.snap).toList) = true := beqStrT rfl
      clear o7 hD8
      go_wp2_with fail
      go_ret
      exact ⟨rfl, (hW7.comp x6).comp x7⟩
    · have d9 : decide ((20 : Int) < (X.length : Int)) = false := decF (by omega)
      have hERR : kvErr [((0, [111, 108, 100]), [118])] X = 5 := by rw [hX']; exact (mix_err _ G P _ HGe.out hPG (by rw [hbe]; omega) (by rw [← hX']; exact h20)).trans hbe
      have HERR := Lib.hid hERR
      clear hERR hX' hbe
      go_wp2_with fail
      refine (kvget_any u3 s j b1 _ 0 [111, 108, 100] hSt.blk hSt.mp ⟨⟨by omega, by omega⟩, by unfold maxLen; simp⟩).mono ?_
      rintro e _ ⟨rfl, rfl⟩
      have g1 : (kvGet [((0, [111, 108, 100]), [118])] (0, [111, 108, 100])).getD [] = [118] := by decide
      have g2 : kvHas [((0, [111, 108, 100]), [118])] (0, [111, 108, 100]) = true := by decide
      rw [g1, g2]
      clear g1 g2
      have q9 : ((str [118]).toList == [118]) = true := by rw [toList_str]; rfl
      have HS3 := Lib.hid hSt
      clear hSt
      go_wp2_with fail
      refine (kvapply_any u3 g s j b1 1 ds [((0, [111, 108, 100]), [118])] HS3.out hok hdn (by omega) (by simp) a3 X c3 ho3.rd hXok ho3.nc ho3.cm (fun h0 => by rw [HERR.out] at h0; cases h0)).mono ?_
      rintro e u5 ⟨rfl, b', hSt5', hb5, hx5⟩
      have hW7 := hW3.trans hx5 (fun k hk e => by rcases e with e | e | e <;> omega)
      have e1 : bDs ds [((0, [111, 108, 100]), [118])] X = ds := by unfold bDs; rw [if_neg (by rw [HERR.out]; rintro ⟨q, _⟩; cases q)]
      have e2 : bM [((0, [111, 108, 100]), [118])] X = [((0, [111, 108, 100]), [118])] := by unfold bM; rw [if_neg (by rw [HERR.out]; simp)]
      rw [e1, e2] at hSt5'
      rw [HERR.out]
      have hm7 := hSt5'.mp
      have hb7 := hSt5'.blk
      have hD7 := hSt5'.dk
      clear e1 e2 hSt5' hx5 ho3 hXok hW3
      go_wp2_with fail
      refine (kvlen_any u5 s j b' _ hb7 hm7 (by simp)).mono ?_
      rintro e _ ⟨rfl, rfl⟩
      clear hm7 hb7
      go_wp2_with fail
      refine (log_any' u5 g ds _ hD7 hok).mono ?_
      rintro e u6 ⟨a6, c6, rfl, o6, x6⟩
      have cv6 := convStr u6 a6 _ c6 ds.log rfl o6.rd
      have q6 : ((str ds.log).toList == (str ds.log).toList) = true := beqStrT rfl
      have hD8 := hD7.no x6
      clear o6 hD7
      go_wp2_with fail
      refine (snap_any u6 g ds _ hD8 hok).mono ?_
      rintro e u7 ⟨a7, c7, rfl, o7, x7⟩
      have cv7 := convStr u7 a7 _ c7 ds.snap rfl o7.rd
      have q7 : ((str ds.snap).toList == (str ds.snap).toList) = true := beqStrT rfl
      clear o7 hD8
      go_wp2_with fail
      go_ret
      exact ⟨rfl, (hW7.comp x6).comp x7⟩
  have hk : k = 4 := by omega
  have b0_ : (k == 0) = false := by rw [beq_eq_false_iff_ne]; omega
  have b1_ : (k == 1) = false := by rw [beq_eq_false_iff_ne]; omega
  have b2_ : (k == 2) = false := by rw [beq_eq_false_iff_ne]; omega
  have b3_ : (k == 3) = false := by rw [beq_eq_false_iff_ne]; omega
  have b4_ : (k == 4) = true := by rw [beq_iff_eq]; exact hk
  clear hk hk0 hk5
  go_wp2_with fail
  refine (kvwithin_any lg 9 w6 (by omega) (by omega) hlg).mono ?_
  rintro e _ ⟨rfl, rfl⟩
  have hr0 := Int.emod_nonneg lg (show (9 : Int) ≠ 0 by omega)
  have hr9 := Int.emod_lt_of_pos lg (show (0 : Int) < 9 by omega)
  generalize lg % 9 = r at *
  obtain ⟨n, hn⟩ : ∃ n : Nat, (n : Int) = 41 + r := ⟨(41 + r).toNat, by omega⟩
  have hn1 : 41 ≤ n := by omega
  have hn2 : n ≤ 50 := by omega
  have Hn := Lib.hid hn
  clear hn
  go_wp2_with (with_reducible refine wpList_make_z TBytes rfl rfl rfl n rfl rfl Hn.out.symm Hn.out.symm w6.heap.size (Nat.le_refl _) (by omega) (by unfold maxLen; omega) ?_)
  intro ad w7 hmk hx7
  have hxx := hx6.comp hx7
  have hX7 := hX.ext (by simp) hx7 (fun h => h)
  have hw67 := hx7.size
  obtain ⟨b0, o0, hsh, _⟩ := hmk.rd.shape (by simp; omega)
  cases hsh
  go_wp2_with fail
  go_loopw [19] (fun s19 wr => ∃ i : Nat, s19 = .int .i64 i ∧ i ≤ n ∧ Own wr w6.heap.size (some ⟨b0, o0, none⟩) 1 n n (List.replicate i (.int .u8 120) ++ List.replicate (n - i) (.int .u8 0)) ∧ Ext no w6 wr) (fun s19 _ => n - (intOf s19).toNat)
  case atStart => exact ⟨0, rfl, Nat.zero_le _, by simpa using hmk, hx7⟩
  case round =>
    clear hmk
    obtain ⟨i, rfl, hin, hmk, hxr⟩ := hrel
    by_cases hil : i < n
    · have d8 : decide (i < n) = true := decT hil
      have y0 : wr.cell? ⟨b0, o0 + i, none⟩ = some (.int .u8 0) := by
        have q := hmk.rd.lookup i (by simp; omega)
        rw [List.getElem_append_right (by simp)] at q
        simpa using q
      have fy : wr.frozen? ⟨b0, o0 + i, none⟩ = false := by
        obtain ⟨ad', ha', _, hf⟩ := hmk.can i (by omega)
        cases ha'
        rw [Addr.add_lit] at hf
        exact hf
      have hst := hmk.set i (by omega) (.int .u8 120)
      rw [Addr.add_lit] at hst
      have hxs : Ext no w6 (wr.setCell ⟨b0, o0 + i, none⟩ (.int .u8 120)) := hxr.trans (Ext.setCell (S := just b0) _ _ _ rfl) (fun q hq e => by have e : q = b0 := e; have := (hmk.base _ rfl).1; simp only at this; omega)
      have HS := Lib.hid (show Own (wr.setCell ⟨b0, o0 + i, none⟩ (.int .u8 120)) w6.heap.size (some ⟨b0, o0, none⟩) 1 n n (List.replicate (i + 1) (.int .u8 120) ++ List.replicate (n - (i + 1)) (.int .u8 0)) by
        have e : (List.replicate i (Value.int .u8 120) ++ List.replicate (n - i) (Value.int .u8 0)).set i (Value.int .u8 120) = List.replicate (i + 1) (Value.int .u8 120) ++ List.replicate (n - (i + 1)) (Value.int .u8 0) := by
          rw [List.set_append_right _ _ (by simp), List.length_replicate, Nat.sub_self, show n - i = (n - (i + 1)) + 1 by omega, List.replicate_succ, List.set_cons_zero, List.replicate_succ', List.append_assoc]
          rfl
        rw [← e]
        exact hst)
      have HX2 := Lib.hid hxs
      clear hst hxs hmk
      go_wp2_with fail
      go_roundw
      case rel => exact ⟨i + 1, by go_num, by omega, HS.out, HX2.out⟩
      case measure => simp [intOf]; omega
    · have d8 : decide (i < n) = false := decF hil
      have hinE : i = n := by omega
      subst hinE
      have hbs : Rd wr (some ⟨b0, o0, none⟩) (bs (List.replicate i 120)) := by
        have q := hmk.rd
        rw [Nat.sub_self] at q
        simpa [bs, B8] using q
      have cvz := convStr wr (some ⟨b0, o0, none⟩) i i (List.replicate i 120) (by simp) hbs
      have hX8 := hX.ext (by simp) hxr (fun h => h)
      have hx68 := hx6.comp hxr
      clear hmk hbs hX7 hxx
      have cb := hX8.cell 2 _ rfl
      have fb := hX8.fr 2
      go_upto_region 28 with fail
      have bX := hX8.set 2 (.string (str (List.replicate i 120))) (by simp)
      have hx : Ext no w5 _ := hx68.trans (Ext.setCell (S := just gx) wr ⟨gx, 2, none⟩ (.string (str (List.replicate i 120))) rfl) (fun q hq e => by have e : q = gx := e; omega)
      clear cb fb
      generalize wr.setCell ⟨gx, 2, none⟩ (.string (str (List.replicate i 120))) = w8 at *
      have hbe : chErr (⟨0, [107], List.replicate i 120, false⟩ : ChangeR) = 5 := by
        unfold chErr
        rw [if_neg (by simp), if_neg]
        rintro ⟨_, _, q⟩
        have := ((textOk_iff _).1 q).1
        simp at this
        omega
      have hbo : ChangeR.ok (⟨0, [107], List.replicate i 120, false⟩ : ChangeR) := ⟨⟨by show (-9223372036854775808 : Int) ≤ 0; omega, by show (0 : Int) ≤ 9223372036854775807; omega⟩, by show ([107] : List UInt8).length ≤ maxLen; decide, by show (List.replicate i (120 : UInt8)).length ≤ maxLen; rw [List.length_replicate]; unfold maxLen; omega⟩
      have hz0 := bX.cell 0 _ rfl
      have hz1 := bX.cell 1 _ rfl
      have hz2 := bX.cell 2 _ rfl
      have hz3 := bX.cell 3 _ rfl
      have hw5W := hx.size
      go_wp2_with fail
      refine (kvwithin_any pt (G.length + 1) w8 (by omega) (by omega) hpt).mono ?_
      rintro e _ ⟨rfl, rfl⟩
      have hp0 := Int.emod_nonneg pt (show ((G.length : Int) + 1) ≠ 0 by omega)
      have hp1 := Int.emod_lt_of_pos pt (show (0 : Int) < (G.length : Int) + 1 by omega)
      obtain ⟨P, hP⟩ : ∃ P : Nat, pt % ((G.length : Int) + 1) = (P : Int) := ⟨(pt % ((G.length : Int) + 1)).toNat, (Int.toNat_of_nonneg hp0).symm⟩
      rw [hP] at hp0 hp1 ⊢
      have hPG : P ≤ G.length := by omega
      clear hP hp0 hp1
      have hA0 : Ext no w5 (w8.alloc (.cells #[] 39)) := hx.comp (Ext.alloc no _ _)
      have hf : Rd (w8.alloc (.cells #[] 39)) ga (rows ChangeR.cells (G.take P)) := by have q := (hGr.ext hA0 (fun _ _ h => h)).take (P * 4); rwa [rows_take kChange] at q
      obtain ⟨B, hBB⟩ : ∃ B, B = w8.heap.size := ⟨_, rfl⟩
      have hz : Own (w8.alloc (.cells #[] 39)) B (some ⟨w8.heap.size, 0, none⟩) 4 0 0 [] := by rw [hBB]; exact Own.fresh w8 _ _ _ _ _ _ _ _ (Nat.le_refl _) (by simp) (Nat.le_refl _) (Nat.zero_le _) (by simp) (by simp) (.inl (Nat.le_refl _))
      have hcA : ∀ w, (Instr.sliceAt 36 (.slice ga G.length gc) none (some (.int .i64 (P : Int))) none).run Try.prog w = .ok (.slice ga P gc) w := fun w => run_cut_h TChange w ga _ gc .i64 P (by omega)
      have hBx := bX.lt (by simp)
      have hB1 : gx < B := by omega
      have hB2 : w5.heap.size ≤ B := by omega
      have hB3 : B ≤ w8.heap.size := by omega
      have hB4 : w8.heap.size ≤ B := by omega
      clear hBB
      go_wp2_with (at_builtin; refine wpList_append TChange rfl rfl rfl hz rfl hf (by rw [rows_length kChange, List.length_take]; congr 1; omega) (oneChange _) ?c1 ?c2 (by simp; omega) ?_)
      case c1 => unfold maxLen; omega
      case c2 => omega
      intro a1 c1 u1 hp1
      try rw [Nat.zero_add]
      have ho1 := hp1.own
      rw [Nat.zero_add, List.nil_append] at ho1
      have hxA : Ext no w8 u1 := (Ext.alloc no _ _).trans hp1.ext (fun k hk => by rintro ⟨ad, h, hb⟩; cases h; simp only at hb; omega)
      have hBs : B ≤ u1.heap.size := by have := hxA.size; omega
      have b1X := bX.ext (by simp) hxA (fun h => h)
      replace hx := hx.comp hxA
      clear hp1 hz hf hcA hB3 hB4 hA0 hxA bX hz0 hz1 hz2 hz3
      have hz0 := b1X.cell 0 _ rfl
      have hz1 := b1X.cell 1 _ rfl
      have hz2 := b1X.cell 2 _ rfl
      have hz3 := b1X.cell 3 _ rfl
      have hX1 : Rd (u1.alloc (.cells #[.int .i64 0, .string { data := #[107] }, .string (str (List.replicate i 120)), .bool false] 39)) (some ⟨u1.heap.size, 0, none⟩) (ChangeR.cells (⟨0, [107], List.replicate i 120, false⟩ : ChangeR)) := Rd.lit u1 #[.int .i64 0, .string { data := #[107] }, .string (str (List.replicate i 120)), .bool false] _ _
      go_wp2_with (at_builtin; refine wpList_append TChange rfl rfl rfl (ho1.alloc _) rfl hX1 rfl (one1Change (⟨0, [107], List.replicate i 120, false⟩ : ChangeR)) ?c1 ?c2 ?c3 ?_)
      case c1 => unfold maxLen; omega
      case c2 => omega
      case c3 => first | omega | (simp; omega)
      intro a2 c2 u2 hp2
      have ho2 := hp2.own
      have hxB : Ext no w5 u2 := (hx.comp (Ext.alloc no u1 (.cells #[.int .i64 0, .string { data := #[107] }, .string (str (List.replicate i 120)), .bool false] 39))).trans hp2.ext (fun k hk => by rintro ⟨ad, h, hb⟩; have := (ho1.base ad h).1; omega)
      have hzB : B ≤ u2.heap.size := Nat.le_trans hBs (Nat.le_trans (Ext.alloc no u1 (.cells #[.int .i64 0, .string { data := #[107] }, .string (str (List.replicate i 120)), .bool false] 39)).size hp2.ext.size)
      clear hp2 hX1 ho1 b1X hx hz0 hz1 hz2 hz3
      have hcC : ∀ w, (Instr.sliceAt 36 (.slice ga G.length gc) (some (.int .i64 (P : Int))) none none).run Try.prog w = .ok (.slice (cutAt ga gc P 4) (G.length - P) (gc - P)) w := fun w => run_cut_l TChange w ga _ gc .i64 P (by omega)
      have hf2 : Rd u2 (cutAt ga gc P 4) (rows ChangeR.cells (G.drop P)) := by have q := (hGr.ext hxB (fun _ _ h => h)).cutAt gc P 4 (fun e => by rw [rows_length kChange]; exact Nat.mul_le_mul_right _ (by omega)); rwa [rows_drop kChange] at q
      go_wp2_with (at_builtin; refine wpList_append TChange rfl rfl rfl ho2 rfl hf2 (by rw [rows_length kChange, List.length_drop]) (oneChange _) ?c1 ?c2 ?c3 ?_)
      case c1 => unfold maxLen; omega
      case c2 => omega
      case c3 => omega
      intro a3 c3 u3 hp3
      obtain ⟨X, hX'⟩ : ∃ X, X = G.take P ++ [(⟨0, [107], List.replicate i 120, false⟩ : ChangeR)] ++ G.drop P := ⟨_, rfl⟩
      have hXn : P + 1 + (G.length - P) = X.length := by rw [hX', List.length_append, List.length_append, List.length_take, List.length_drop, List.length_singleton]; omega
      have ho3 : Own u3 B a3 4 X.length c3 (rows ChangeR.cells X) := by have q := hp3.own; rw [← hXn, hX', rows_append, rows_append, rows_one]; exact q
      have hxC : Ext no w5 u3 := hxB.trans hp3.ext (fun k hk => by rintro ⟨ad, h, hb⟩; have := (ho2.base ad h).1; omega)
      have hXok : ∀ c ∈ X, c.ok := fun c hc => by
        rw [hX'] at hc
        rcases List.mem_append.1 hc with hc | hc
        · rcases List.mem_append.1 hc with hc | hc
          · exact HGo.out c (List.mem_of_mem_take hc)
          · rw [List.mem_singleton] at hc; rw [hc]; exact hbo
        · exact HGo.out c (List.mem_of_mem_drop hc)
      have hSt := HSt5.out.no hxC
      have hW3 := hW5.comp hxC
      rw [hXn]
      clear hp3 hf2 hcC hxB hxC ho2 hXn hbo hGr
      by_cases h20 : 20 < X.length
      · have d9 : decide ((20 : Int) < (X.length : Int)) = true := decT (by omega)
        have hERR : kvErr [((0, [111, 108, 100]), [118])] X = 4 := by rw [hX']; exact (by unfold kvErr; rw [if_pos (by rw [← hX']; exact h20)])
        have HERR := Lib.hid hERR
        clear hERR hX' hbe
        go_wp2_with fail
        refine (kvget_any u3 s j b1 _ 0 [111, 108, 100] hSt.blk hSt.mp ⟨⟨by omega, by omega⟩, by unfold maxLen; simp⟩).mono ?_
        rintro e _ ⟨rfl, rfl⟩
        have g1 : (kvGet [((0, [111, 108, 100]), [118])] (0, [111, 108, 100])).getD [] = [118] := by decide
        have g2 : kvHas [((0, [111, 108, 100]), [118])] (0, [111, 108, 100]) = true := by decide
        rw [g1, g2]
        clear g1 g2
        have q9 : ((str [118]).toList == [118]) = true := by rw [toList_str]; rfl
        have HS3 := Lib.hid hSt
        clear hSt
        go_wp2_with fail
        refine (kvapply_any u3 g s j b1 1 ds [((0, [111, 108, 100]), [118])] HS3.out hok hdn (by omega) (by simp) a3 X c3 ho3.rd hXok ho3.nc ho3.cm (fun h0 => by rw [HERR.out] at h0; cases h0)).mono ?_
        rintro e u5 ⟨rfl, b', hSt5', hb5, hx5⟩
        have hW7 := hW3.trans hx5 (fun k hk e => by rcases e with e | e | e <;> omega)
        have e1 : bDs ds [((0, [111, 108, 100]), [118])] X = ds := by unfold bDs; rw [if_neg (by rw [HERR.out]; rintro ⟨q, _⟩; cases q)]
        have e2 : bM [((0, [111, 108, 100]), [118])] X = [((0, [111, 108, 100]), [118])] := by unfold bM; rw [if_neg (by rw [HERR.out]; simp)]
        rw [e1, e2] at hSt5'
        rw [HERR.out]
        have hm7 := hSt5'.mp
        have hb7 := hSt5'.blk
        have hD7 := hSt5'.dk
        clear e1 e2 hSt5' hx5 ho3 hXok hW3
        go_wp2_with fail
        refine (kvlen_any u5 s j b' _ hb7 hm7 (by simp)).mono ?_
        rintro e _ ⟨rfl, rfl⟩
        clear hm7 hb7
        go_wp2_with fail
        refine (log_any' u5 g ds _ hD7 hok).mono ?_
        rintro e u6 ⟨a6, c6, rfl, o6, x6⟩
        have cv6 := convStr u6 a6 _ c6 ds.log rfl o6.rd
        have q6 : ((str ds.log).toList == (str ds.log).toList) = true := beqStrT rfl
        have hD8 := hD7.no x6
        clear o6 hD7
        go_wp2_with fail
        refine (snap_any u6 g ds _ hD8 hok).mono ?_
        rintro e u7 ⟨a7, c7, rfl, o7, x7⟩
        have cv7 := convStr u7 a7 _ c7 ds.snap rfl o7.rd
        have q7 : ((str ds.snap).toList == (str ds.snap).toList) = true := beqStrT rfl
        clear o7 hD8
        go_wp2_with fail
        go_ret
        exact ⟨rfl, (hW7.comp x6).comp x7⟩
      · have d9 : decide ((20 : Int) < (X.length : Int)) = false := decF (by omega)
        have hERR : kvErr [((0, [111, 108, 100]), [118])] X = 5 := by rw [hX']; exact (mix_err _ G P _ HGe.out hPG (by rw [hbe]; omega) (by rw [← hX']; exact h20)).trans hbe
        have HERR := Lib.hid hERR
        clear hERR hX' hbe
        go_wp2_with fail
        refine (kvget_any u3 s j b1 _ 0 [111, 108, 100] hSt.blk hSt.mp ⟨⟨by omega, by omega⟩, by unfold maxLen; simp⟩).mono ?_
        rintro e _ ⟨rfl, rfl⟩
        have g1 : (kvGet [((0, [111, 108, 100]), [118])] (0, [111, 108, 100])).getD [] = [118] := by decide
        have g2 : kvHas [((0, [111, 108, 100]), [118])] (0, [111, 108, 100]) = true := by decide
        rw [g1, g2]
        clear g1 g2
        have q9 : ((str [118]).toList == [118]) = true := by rw [toList_str]; rfl
        have HS3 := Lib.hid hSt
        clear hSt
        go_wp2_with fail
        refine (kvapply_any u3 g s j b1 1 ds [((0, [111, 108, 100]), [118])] HS3.out hok hdn (by omega) (by simp) a3 X c3 ho3.rd hXok ho3.nc ho3.cm (fun h0 => by rw [HERR.out] at h0; cases h0)).mono ?_
        rintro e u5 ⟨rfl, b', hSt5', hb5, hx5⟩
        have hW7 := hW3.trans hx5 (fun k hk e => by rcases e with e | e | e <;> omega)
        have e1 : bDs ds [((0, [111, 108, 100]), [118])] X = ds := by unfold bDs; rw [if_neg (by rw [HERR.out]; rintro ⟨q, _⟩; cases q)]
        have e2 : bM [((0, [111, 108, 100]), [118])] X = [((0, [111, 108, 100]), [118])] := by unfold bM; rw [if_neg (by rw [HERR.out]; simp)]
        rw [e1, e2] at hSt5'
        rw [HERR.out]
        have hm7 := hSt5'.mp
        have hb7 := hSt5'.blk
        have hD7 := hSt5'.dk
        clear e1 e2 hSt5' hx5 ho3 hXok hW3
        go_wp2_with fail
        refine (kvlen_any u5 s j b' _ hb7 hm7 (by simp)).mono ?_
        rintro e _ ⟨rfl, rfl⟩
        clear hm7 hb7
        go_wp2_with fail
        refine (log_any' u5 g ds _ hD7 hok).mono ?_
        rintro e u6 ⟨a6, c6, rfl, o6, x6⟩
        have cv6 := convStr u6 a6 _ c6 ds.log rfl o6.rd
        have q6 : ((str ds.log).toList == (str ds.log).toList) = true := beqStrT rfl
        have hD8 := hD7.no x6
        clear o6 hD7
        go_wp2_with fail
        refine (snap_any u6 g ds _ hD8 hok).mono ?_
        rintro e u7 ⟨a7, c7, rfl, o7, x7⟩
        have cv7 := convStr u7 a7 _ c7 ds.snap rfl o7.rd
        have q7 : ((str ds.snap).toList == (str ds.snap).toList) = true := beqStrT rfl
        clear o7 hD8
        go_wp2_with fail
        go_ret
        exact ⟨rfl, (hW7.comp x6).comp x7⟩
end Go.Proofs.Ytpljcnjkdjblmaa
