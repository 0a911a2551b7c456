/- The reference's store (escrowref5): put. -/
import Derived.Test.YtpljcnjkdjblmaaKA
import Derived.Test.YtpljcnjkdjblmaaKvD
namespace Go.Esc
open Go.RowKit
def PairR.cells (r : PairR) : List Value := [.string (str r.key), .string (str r.val)]
theorem kPair (r : PairR) : (PairR.cells r).length = 2 := rfl
theorem onePair (l : List PairR) : ∀ u ∈ rows PairR.cells l, u.oneCell' = true := rows_one' (fun x u hu => by simp only [PairR.cells, List.mem_cons, List.not_mem_nil, or_false] at hu; rcases hu with rfl | rfl <;> rfl) l
theorem one1Pair (x : PairR) : ∀ u ∈ PairR.cells x, u.oneCell' = true := fun u hu => by simp only [PairR.cells, List.mem_cons, List.not_mem_nil, or_false] at hu; rcases hu with rfl | rfl <;> rfl
theorem kvRd_no {w w' : World} {a : Option Addr} {cs : List Value} (h : Rd w a cs) (hx : Ext no w w') : Rd w' a cs := h.ext hx (fun _ _ h => h)
section
variable {α K : Type} [DecidableEq K] {κ : α → K} {lt : K → K → Bool}
theorem pos_lt (key : K) (l : List α) : ∀ (j : Nat) (x : α), j < posOf κ lt key l → l[j]? = some x → lt (κ x) key = true := by
  induction l with
  | nil => intro j x h; simp [posOf] at h
  | cons y l ih =>
    intro j x h hx
    rw [posOf_cons] at h
    split at h
    · rename_i hy
      cases j with
      | zero => rw [List.getElem?_cons_zero] at hx; cases hx; exact hy
      | succ j => rw [List.getElem?_cons_succ] at hx; exact ih j x (by omega) hx
    · omega
theorem pos_at (key : K) (l : List α) : ∀ x : α, l[posOf κ lt key l]? = some x → lt (κ x) key = false := by
  induction l with
  | nil => intro x hx; simp at hx
  | cons y l ih =>
    intro x hx
    rw [posOf_cons] at hx
    split at hx
    · rw [List.getElem?_cons_succ] at hx; exact ih x hx
    · rename_i hy
      rw [List.getElem?_cons_zero] at hx
      cases hx
      simpa using hy
end
end Go.Esc
namespace Go.Proofs.Ytpljcnjkdjblmaa
open Go.RowKit Go.Esc
set_option linter.unusedVariables false
set_option linter.unusedSimpArgs false
theorem TPair : SlT Try.prog 32 65 (.agg #[.string { data := #[] }, .string { data := #[] }]) 2 32 := ⟨Try.underlying32, by kernel_rfl, rfl, by decide⟩

set_option maxRecDepth 100000 in
set_option maxHeartbeats 8000000 in
theorem rput0_any (w : World) (x : Nat) (v0 v1 v2 : Value) (la : Option Addr) (l : List PairR) (lc : Nat) (k v : List UInt8) (d : Bool) (hX : Blk w x [.slice la l.length lc, v1, v2]) (hr : Rd w la (rows PairR.cells l)) (hl : l.length ≤ 1099511627775) (hlc : l.length ≤ lc) :
    Calls Try.prog 39 #[.pointer (some ⟨x, 0, none⟩), .agg #[.int .i64 0, .string (str k), .string (str v), .bool d]] w fun e w' => e = .returned (.tuple #[]) ∧ ∃ a' c', Blk w' x ([.slice la l.length lc, v1, v2].set 0 (.slice a' (rowPut l (⟨0, k, v, d⟩ : ChangeR)).length c')) ∧ Own w' w.heap.size a' 2 (rowPut l (⟨0, k, v, d⟩ : ChangeR)).length c' (rows PairR.cells (rowPut l (⟨0, k, v, d⟩ : ChangeR))) ∧ Ext (just x) w w' := by
  obtain ⟨E, hE⟩ : ∃ E, E = rowPut l (⟨0, k, v, d⟩ : ChangeR) := ⟨_, rfl⟩
  rw [← hE]
  have HE := Lib.hid hE
  clear hE
  have hxl := hX.lt (by simp)
  obtain ⟨P, hP⟩ : ∃ P, P = posOf PairR.key Op.bytesLess k l := ⟨_, rfl⟩
  have hPl : P ≤ l.length := by rw [hP]; exact posOf_le _ _
  have HL := Lib.hid (show ∀ (j : Nat) x, j < P → l[j]? = some x → Op.bytesLess x.key k = true by rw [hP]; exact pos_lt _ _)
  have HA := Lib.hid (show ∀ x, l[P]? = some x → Op.bytesLess x.key k = false by rw [hP]; exact pos_at _ _)
  have HP := Lib.hid hP
  clear hP
  go_enter Try.func39, Try.ntmps39
  go_upto_region 1 with fail
  have hO := Blk.lit w #[.int .i64 0, .string (str k), .string (str v), .bool d] 90
  have hW := Ext.alloc no w (.cells #[.int .i64 0, .string (str k), .string (str v), .bool d] 90)
  replace hX := hX.ext (by simp) hW (fun h => h)
  have hOl := hO.lt (by simp)
  generalize w.alloc (.cells #[.int .i64 0, .string (str k), .string (str v), .bool d] 90) = w1 at *
  obtain ⟨g, hg⟩ : ∃ g, g = w.heap.size := ⟨_, rfl⟩
  have hgw : w.heap.size ≤ g := by omega
  have hxg : x < g := by omega
  rw [← hg] at hO hOl ⊢
  clear hg
  have q0 := hO.cell 0 _ rfl
  have x0 := hX.cell 0 _ rfl
  go_quiet (fail)
  have hxq := Ext.drewN no w1 nq
  generalize w1.drewN nq = w2 at *
  replace hW := hW.comp hxq
  replace hO := hO.ext (by simp) hxq (fun h => h)
  replace hX := hX.ext (by simp) hxq (fun h => h)
  clear hxq
  clear q0 x0
  go_wp2_with fail
  go_loopw [5] (fun s5 wr => ∃ i : Nat, s5 = .int .i64 i ∧ i ≤ P ∧ Ext no w2 wr) (fun s5 _ => l.length - (intOf s5).toNat)
  case atStart => exact ⟨0, rfl, Nat.zero_le _, Ext.refl _ _⟩
  case round =>
    obtain ⟨i, rfl, hiP, hx⟩ := hrel
    have hx0 := hx
    replace hW := hW.comp hx
    replace hO := hO.ext (by simp) hx (fun h => h)
    replace hX := hX.ext (by simp) hx (fun h => h)
    clear hx
    have q1 := hO.cell 1 _ rfl
    by_cases hin : i < P
    · have hil : i < l.length := by omega
      have d1 : decide (i < l.length) = true := decT hil
      obtain ⟨r, hrm⟩ : ∃ r, l[i]? = some r := ⟨_, List.getElem?_eq_getElem hil⟩
      have d2 : Op.bytesLess (str r.key).toList (str k).toList = true := by rw [toList_str, toList_str]; exact HL.out i r hin hrm
      obtain ⟨b, off, hsa, _⟩ := rows_shape kPair (by omega) hr (by omega)
      have hrr := kvRd_no hr hW
      rw [hsa] at hrr
      have y0 : wr.cell? ⟨b, off + i * 2, none⟩ = some (.string (str r.key)) := rows_cell kPair hrr hrm 0 _ rfl
      have y1 : wr.cell? ⟨b, off + i * 2 + 1, none⟩ = some (.string (str r.val)) := rows_cell kPair hrr hrm 1 _ rfl
      clear hrr
      subst hsa
      clear hrm
      go_upto_region 3 with fail
      go_quiet (fail)
      have hx0 := hx0.comp (Ext.drewN no wr nq)
      generalize wr.drewN nq = wz at *
      go_wp2_with fail
      go_roundw
      case rel => exact ⟨i + 1, by go_num, by omega, hx0⟩
      case measure => simp [intOf]; omega
    · have hiP2 : i = P := by omega
      subst hiP2
      clear hx0 hin hiP
      by_cases hPn : i < l.length
      · obtain ⟨r, hrm⟩ : ∃ r, l[i]? = some r := ⟨_, List.getElem?_eq_getElem hPn⟩
        have d1 : decide (i < l.length) = true := decT hPn
        have d2 : Op.bytesLess (str r.key).toList (str k).toList = false := by rw [toList_str, toList_str]; exact HA.out r hrm
        obtain ⟨b, off, hsa, _⟩ := rows_shape kPair (by omega) hr (by omega)
        have hrr := kvRd_no hr hW
        rw [hsa] at hrr
        have y0 : wr.cell? ⟨b, off + i * 2, none⟩ = some (.string (str r.key)) := rows_cell kPair hrr hrm 0 _ rfl
        have y1 : wr.cell? ⟨b, off + i * 2 + 1, none⟩ = some (.string (str r.val)) := rows_cell kPair hrr hrm 1 _ rfl
        clear hrr
        subst hsa
        go_upto_region 3 with fail
        go_quiet (fail)
        have hxq := Ext.drewN no wr nq
        generalize wr.drewN nq = wz at *
        replace hW := hW.comp hxq
        replace hO := hO.ext (by simp) hxq (fun h => h)
        replace hX := hX.ext (by simp) hxq (fun h => h)
        clear hxq
        clear q1 d2 y0 y1
        have hA0 : Ext no w (wz.alloc (.cells #[] 65)) := hW.comp (Ext.alloc no _ _)
        have hf : Rd (wz.alloc (.cells #[] 65)) (some ⟨b, off, none⟩) (rows PairR.cells (l.take i)) := by have q := (kvRd_no hr hA0).take (i * 2); rwa [rows_take kPair] at q
        obtain ⟨B, hB⟩ : ∃ B, B = wz.heap.size := ⟨_, rfl⟩
        have hz : Own (wz.alloc (.cells #[] 65)) B (some ⟨wz.heap.size, 0, none⟩) 2 0 0 [] := by rw [hB]; exact Own.fresh wz _ _ _ _ _ _ _ _ (Nat.le_refl _) (by simp) (Nat.le_refl _) (Nat.zero_le _) (by simp) (by simp) (.inl (Nat.le_refl _))
        have hcA : ∀ w, (Instr.sliceAt 32 (.slice (some ⟨b, off, none⟩) l.length lc) none (some (.int .i64 (i : Int))) none).run Try.prog w = .ok (.slice (some ⟨b, off, none⟩) i lc) w := fun w => run_cut_h TPair w (some ⟨b, off, none⟩) _ lc .i64 i (by omega)
        have hB1 : g < B := by have := hO.lt (by simp); omega
        have hB2 : w.heap.size ≤ B := by omega
        have hB3 : B ≤ wz.heap.size := by omega
        have hB4 : wz.heap.size ≤ B := by omega
        clear hB
        go_wp2_with (at_builtin; refine wpList_append TPair rfl rfl rfl hz rfl hf (by rw [rows_length kPair, List.length_take]; congr 1; omega) (onePair _) ?c1 ?c2 (by simp; omega) ?_)
        case c1 => unfold maxLen; omega
        case c2 => omega
        intro a1 c1 w5 hp1
        try rw [Nat.zero_add]
        have ho1 := hp1.own
        rw [Nat.zero_add, List.nil_append] at ho1
        have hxA : Ext no wz w5 := (Ext.alloc no _ _).trans hp1.ext (fun k hk => by rintro ⟨ad, h, hb⟩; cases h; simp only at hb; omega)
        have hBs : B ≤ w5.heap.size := by have := hxA.size; omega
        clear hp1 hz hf hcA hB3 hB4 hA0
        replace hW := hW.comp hxA
        replace hO := hO.ext (by simp) hxA (fun h => h)
        replace hX := hX.ext (by simp) hxA (fun h => h)
        clear hxA
        have q3 := hO.cell 3 _ rfl
        cases d with
        | true =>
          have hF : Own w5 B a1 2 i c1 (rows PairR.cells (l.take i ++ Go.Esc.newRow (⟨0, k, v, true⟩ : ChangeR))) := by have e : Go.Esc.newRow (⟨0, k, v, true⟩ : ChangeR) = [] := rfl; rw [e, List.append_nil]; exact ho1
          clear ho1
          go_upto_region 8 with fail
          clear q3
          generalize w5 = w6 at *
          obtain ⟨a2, ha2⟩ : ∃ a2, a2 = a1 := ⟨_, rfl⟩
          obtain ⟨c2, hc2⟩ : ∃ c2, c2 = c1 := ⟨_, rfl⟩
          rw [← ha2, ← hc2] at hF ⊢
          clear ha2 hc2
          have hrr := kvRd_no hr hW
          have y0 : w6.cell? ⟨b, off + i * 2, none⟩ = some (.string (str r.key)) := rows_cell kPair hrr hrm 0 _ rfl
          clear hrr
          have q1 := hO.cell 1 _ rfl
          by_cases hk : r.key = k
          · have d3 : ((str r.key).toList == (str k).toList) = true := beqStrT hk
            have HR := Lib.hid (show E = (l.take i ++ Go.Esc.newRow (⟨0, k, v, true⟩ : ChangeR)) ++ l.drop (i + 1) by rw [HE.out]; unfold rowPut rowQ rowP; rw [← HP.out, hrm]; simp only; rw [if_pos hk])
            clear hk
            go_upto_region 8 with fail
            go_quiet (fail)
            have hxq := Ext.drewN no w6 nq
            generalize w6.drewN nq = w7 at *
            replace hW := hW.comp hxq
            replace hO := hO.ext (by simp) hxq (fun h => h)
            replace hX := hX.ext (by simp) hxq (fun h => h)
            replace hF := hF.ext hxq (fun _ _ h => h)
            replace hBs := Nat.le_trans hBs hxq.size
            clear hxq
            clear y0 q1 d3
            have q0 := hO.cell 0 _ rfl
            have x0 := hX.cell 0 _ rfl
            have xf := hX.fr 0
            have hcC : ∀ w, (Instr.sliceAt 32 (.slice (some ⟨b, off, none⟩) l.length lc) (some (.int .i64 ((i : Int) + 1))) none none).run Try.prog w = .ok (.slice (cutAt (some ⟨b, off, none⟩) lc (i + 1) 2) (l.length - (i + 1)) (lc - (i + 1))) w := fun w => run_cut_l TPair w (some ⟨b, off, none⟩) _ lc .i64 (i + 1) (by omega)
            have hf2 : Rd w7 (cutAt (some ⟨b, off, none⟩) lc (i + 1) 2) (rows PairR.cells (l.drop (i + 1))) := by have q := (kvRd_no hr hW).cutAt lc (i + 1) 2 (fun e => by rw [rows_length kPair]; exact Nat.mul_le_mul_right _ (by omega)); rwa [rows_drop kPair] at q
            go_upto_region 10 with fail
            refine wp_region_F [2] (looks [(2, fun z => z.cell? ⟨g, 0, none⟩ = some (.int .i64 0))]) (by kernel_rfl) ?_
            have hT0 : ∀ k, looks [(2, fun z => z.cell? ⟨g, 0, none⟩ = some (.int .i64 0))] k (w7.drew) := looks_all ⟨(hO.drew).cell 0 _ rfl, trivial⟩
            refine wpF_take 0 (v := ?_) rfl (by kernel_rfl) (by kernel_rfl) (by kernel_rfl) (fun _ _ _ h => h) hT0 (by rfl) ?_ ?_
            rotate_left
            · (intro wq; go_simp; try with_reducible rfl)
            simp only [Act.put, List.setIfInBounds_toArray, List.set_cons_zero, List.set_cons_succ]
            refine wpF_take 1 (v := ?_) rfl (by kernel_rfl) (by kernel_rfl) (by kernel_rfl) (fun _ _ _ h => h) hT0 (by rfl) ?_ ?_
            rotate_left
            · (intro wq; go_simp; try with_reducible rfl)
            simp only [Act.put, List.setIfInBounds_toArray, List.set_cons_zero, List.set_cons_succ]
            refine wpF_look 2 (v := .int .i64 0) rfl rfl (by kernel_rfl) (by kernel_rfl) (by kernel_rfl) (by kernel_rfl) (fun _ _ _ h => h) hT0 (by rfl) (fun w hS => by have hS : w.cell? ⟨g, 0, none⟩ = some (.int .i64 0) := hS; have q := hS; go_simp) ?_
            simp only [Act.put, List.setIfInBounds_toArray, List.set_cons_zero, List.set_cons_succ]
            refine wpF_take 3 (v := ?_) rfl (by kernel_rfl) (by kernel_rfl) (by kernel_rfl) (fun _ _ _ h => h) hT0 (by rfl) ?_ ?_
            rotate_left
            · (intro wq; go_simp; try with_reducible rfl)
            simp only [Act.put, List.setIfInBounds_toArray, List.set_cons_zero, List.set_cons_succ]
            refine wpF_take 4 (v := ?_) rfl (by kernel_rfl) (by kernel_rfl) (by kernel_rfl) (fun _ _ _ h => h) hT0 (by rfl) ?_ ?_
            rotate_left
            · (intro wq; go_simp; try with_reducible rfl)
            simp only [Act.put, List.setIfInBounds_toArray, List.set_cons_zero, List.set_cons_succ]
            refine wpF_take 5 (v := ?_) rfl (by kernel_rfl) (by kernel_rfl) (by kernel_rfl) (fun _ _ _ h => h) hT0 (by rfl) ?_ ?_
            rotate_left
            · (intro wq; go_simp; try with_reducible rfl)
            simp only [Act.put, List.setIfInBounds_toArray, List.set_cons_zero, List.set_cons_succ]
            refine wpF_take 6 (v := .slice (cutAt (some ⟨b, off, none⟩) lc (i + 1) 2) (l.length - (i + 1)) (lc - (i + 1))) rfl (by kernel_rfl) (by kernel_rfl) (by kernel_rfl) (fun _ _ _ h => h) hT0 (by rfl) (by intro wq; go_simp) ?_
            simp only [Act.put, List.setIfInBounds_toArray, List.set_cons_zero, List.set_cons_succ]
            refine wpF_take 8 (v := ?_) rfl (by kernel_rfl) (by kernel_rfl) (by kernel_rfl) (fun _ _ _ h => h) hT0 (by rfl) ?_ ?_
            rotate_left
            · (intro wq; go_simp; try with_reducible rfl)
            simp only [Act.put, List.setIfInBounds_toArray, List.set_cons_zero, List.set_cons_succ]
            refine wpF_take 9 (v := ?_) rfl (by kernel_rfl) (by kernel_rfl) (by kernel_rfl) (fun _ _ _ h => h) hT0 (by rfl) ?_ ?_
            rotate_left
            · (intro wq; go_simp; try with_reducible rfl)
            simp only [Act.put, List.setIfInBounds_toArray, List.set_cons_zero, List.set_cons_succ]
            refine wpF_exec 7 rfl (by kernel_rfl) (by rfl) ?_
            intro K hK
            refine op_append (m := l.length - (i + 1)) TPair rfl rfl hF.drew rfl (hf2.ext (Ext.drew no w7) (fun _ _ h => h)) (by rw [rows_length kPair, List.length_drop]) (onePair _) (by unfold maxLen; omega) (by omega) (by show B ≤ w7.heap.size; omega) ?_
            intro a4 c4 w8 hp4
            have xx := (Ext.drew (blk a2) w7).comp hp4.ext
            have nx : ¬ blk a2 x := by rintro ⟨ad, h, hb⟩; have := (hF.base ad h).1; omega
            have hX8 := hX.ext (by simp) xx nx
            have hW8 := hW.trans xx (fun k hk => by rintro ⟨ad, h, hb⟩; have := (hF.base ad h).1; omega)
            have ho8 := hp4.own
            have hO8 := hO.ext (by simp) xx (by rintro ⟨ad, h, hb⟩; have := (hF.base ad h).1; omega)
            obtain ⟨nn, hnn⟩ : ∃ nn, nn = i + (l.length - (i + 1)) := ⟨_, rfl⟩
            rw [← hnn] at ho8 ⊢
            have Hnn := Lib.hid hnn
            clear hnn hp4 xx nx
            have hT1 : ∀ k, looks [(2, fun z => z.cell? ⟨g, 0, none⟩ = some (.int .i64 0))] k (w8) := looks_all ⟨hO8.cell 0 _ rfl, trivial⟩
            refine hK _ _ (looks [(2, fun z => z.cell? ⟨g, 0, none⟩ = some (.int .i64 0))]) ⟨.inr (.inr (fun x h => h)), trivial⟩ hT1 ?_
            clear hK K
            try simp only [Act.put, List.setIfInBounds_toArray, List.set_cons_zero, List.set_cons_succ]
            refine wpF_take 10 (v := .pointer (some ⟨x, 0, none⟩)) rfl (by kernel_rfl) (by kernel_rfl) (by kernel_rfl) (fun _ _ _ h => h) hT1 (by rfl) (by intro wq; go_simp) ?_
            simp only [Act.put, List.setIfInBounds_toArray, List.set_cons_zero, List.set_cons_succ]
            refine wpF_exec 11 rfl (by kernel_rfl) (by rfl) ?_
            intro K hK
            have y0 := hX8.cell 0 _ rfl
            have yf := hX8.fr 0
            go_simp
            have hX9 := hX8.set 0 (.slice a4 nn c4) (by simp)
            have hx9 : Ext (just x) w8 (w8.setCell ⟨x, 0, none⟩ (.slice a4 nn c4)) := Ext.setCell _ _ _ rfl
            generalize w8.setCell ⟨x, 0, none⟩ (.slice a4 nn c4) = w9 at *
            have hT2 : ∀ k, looks [(2, fun z => True)] k (w9) := looks_all ⟨trivial, trivial⟩
            refine hK _ _ (looks [(2, fun z => True)]) ⟨.inr (.inl (by kernel_rfl)), trivial⟩ hT2 ?_
            clear hK K
            try simp only [Act.put, List.setIfInBounds_toArray, List.set_cons_zero, List.set_cons_succ]
            refine wpF_done (by kernel_rfl) ?_ _
            have hlen : nn = E.length := by have hnr : (Go.Esc.newRow (⟨0, k, v, true⟩ : ChangeR)).length = 0 := rfl; rw [Hnn.out, HR.out, List.length_append, List.length_append, List.length_take, List.length_drop, hnr]; omega
            have ho9 : Own w9 w.heap.size a4 2 E.length c4 (rows PairR.cells E) := by
              have q := (ho8.ext hx9 (fun ad ha e => by have e : ad.block = x := e; have := (ho8.base ad ha).1; omega)).mono hB2
              rw [← rows_append, ← HR.out, hlen] at q
              exact q
            rw [hlen] at hX9
            have hWX : Ext (just x) w w9 := (hW8.mono (fun _ _ h => h.elim)).comp hx9
            clear hlen hX8 hW8 ho8 hx9
            go_wp2_with fail
            go_end0
            exact ⟨rfl, a4, c4, hX9, ho9, hWX⟩
          · have d3 : ((str r.key).toList == (str k).toList) = false := beqStrF hk
            have HR := Lib.hid (show E = (l.take i ++ Go.Esc.newRow (⟨0, k, v, true⟩ : ChangeR)) ++ l.drop (i) by rw [HE.out]; unfold rowPut rowQ rowP; rw [← HP.out, hrm]; simp only; rw [if_neg hk])
            clear hk
            go_upto_region 8 with fail
            go_quiet (fail)
            have hxq := Ext.drewN no w6 nq
            generalize w6.drewN nq = w7 at *
            replace hW := hW.comp hxq
            replace hO := hO.ext (by simp) hxq (fun h => h)
            replace hX := hX.ext (by simp) hxq (fun h => h)
            replace hF := hF.ext hxq (fun _ _ h => h)
            replace hBs := Nat.le_trans hBs hxq.size
            clear hxq
            clear y0 q1 d3
            have q0 := hO.cell 0 _ rfl
            have x0 := hX.cell 0 _ rfl
            have xf := hX.fr 0
            have hcC : ∀ w, (Instr.sliceAt 32 (.slice (some ⟨b, off, none⟩) l.length lc) (some (.int .i64 (i : Int))) none none).run Try.prog w = .ok (.slice (cutAt (some ⟨b, off, none⟩) lc (i) 2) (l.length - (i)) (lc - (i))) w := fun w => run_cut_l TPair w (some ⟨b, off, none⟩) _ lc .i64 (i) (by omega)
            have hf2 : Rd w7 (cutAt (some ⟨b, off, none⟩) lc (i) 2) (rows PairR.cells (l.drop (i))) := by have q := (kvRd_no hr hW).cutAt lc (i) 2 (fun e => by rw [rows_length kPair]; exact Nat.mul_le_mul_right _ (by omega)); rwa [rows_drop kPair] at q
            go_upto_region 10 with fail
            refine wp_region_F [2] (looks [(2, fun z => z.cell? ⟨g, 0, none⟩ = some (.int .i64 0))]) (by kernel_rfl) ?_
            have hT0 : ∀ k, looks [(2, fun z => z.cell? ⟨g, 0, none⟩ = some (.int .i64 0))] k (w7.drew) := looks_all ⟨(hO.drew).cell 0 _ rfl, trivial⟩
            refine wpF_take 0 (v := ?_) rfl (by kernel_rfl) (by kernel_rfl) (by kernel_rfl) (fun _ _ _ h => h) hT0 (by rfl) ?_ ?_
            rotate_left
            · (intro wq; go_simp; try with_reducible rfl)
            simp only [Act.put, List.setIfInBounds_toArray, List.set_cons_zero, List.set_cons_succ]
            refine wpF_take 1 (v := ?_) rfl (by kernel_rfl) (by kernel_rfl) (by kernel_rfl) (fun _ _ _ h => h) hT0 (by rfl) ?_ ?_
            rotate_left
            · (intro wq; go_simp; try with_reducible rfl)
            simp only [Act.put, List.setIfInBounds_toArray, List.set_cons_zero, List.set_cons_succ]
            refine wpF_look 2 (v := .int .i64 0) rfl rfl (by kernel_rfl) (by kernel_rfl) (by kernel_rfl) (by kernel_rfl) (fun _ _ _ h => h) hT0 (by rfl) (fun w hS => by have hS : w.cell? ⟨g, 0, none⟩ = some (.int .i64 0) := hS; have q := hS; go_simp) ?_
            simp only [Act.put, List.setIfInBounds_toArray, List.set_cons_zero, List.set_cons_succ]
            refine wpF_take 3 (v := ?_) rfl (by kernel_rfl) (by kernel_rfl) (by kernel_rfl) (fun _ _ _ h => h) hT0 (by rfl) ?_ ?_
            rotate_left
            · (intro wq; go_simp; try with_reducible rfl)
            simp only [Act.put, List.setIfInBounds_toArray, List.set_cons_zero, List.set_cons_succ]
            refine wpF_take 4 (v := ?_) rfl (by kernel_rfl) (by kernel_rfl) (by kernel_rfl) (fun _ _ _ h => h) hT0 (by rfl) ?_ ?_
            rotate_left
            · (intro wq; go_simp; try with_reducible rfl)
            simp only [Act.put, List.setIfInBounds_toArray, List.set_cons_zero, List.set_cons_succ]
            refine wpF_take 5 (v := ?_) rfl (by kernel_rfl) (by kernel_rfl) (by kernel_rfl) (fun _ _ _ h => h) hT0 (by rfl) ?_ ?_
            rotate_left
            · (intro wq; go_simp; try with_reducible rfl)
            simp only [Act.put, List.setIfInBounds_toArray, List.set_cons_zero, List.set_cons_succ]
            refine wpF_take 6 (v := .slice (cutAt (some ⟨b, off, none⟩) lc (i) 2) (l.length - (i)) (lc - (i))) rfl (by kernel_rfl) (by kernel_rfl) (by kernel_rfl) (fun _ _ _ h => h) hT0 (by rfl) (by intro wq; go_simp) ?_
            simp only [Act.put, List.setIfInBounds_toArray, List.set_cons_zero, List.set_cons_succ]
            refine wpF_take 8 (v := ?_) rfl (by kernel_rfl) (by kernel_rfl) (by kernel_rfl) (fun _ _ _ h => h) hT0 (by rfl) ?_ ?_
            rotate_left
            · (intro wq; go_simp; try with_reducible rfl)
            simp only [Act.put, List.setIfInBounds_toArray, List.set_cons_zero, List.set_cons_succ]
            refine wpF_take 9 (v := ?_) rfl (by kernel_rfl) (by kernel_rfl) (by kernel_rfl) (fun _ _ _ h => h) hT0 (by rfl) ?_ ?_
            rotate_left
            · (intro wq; go_simp; try with_reducible rfl)
            simp only [Act.put, List.setIfInBounds_toArray, List.set_cons_zero, List.set_cons_succ]
            refine wpF_exec 7 rfl (by kernel_rfl) (by rfl) ?_
            intro K hK
            refine op_append (m := l.length - (i)) TPair rfl rfl hF.drew rfl (hf2.ext (Ext.drew no w7) (fun _ _ h => h)) (by rw [rows_length kPair, List.length_drop]) (onePair _) (by unfold maxLen; omega) (by omega) (by show B ≤ w7.heap.size; omega) ?_
            intro a4 c4 w8 hp4
            have xx := (Ext.drew (blk a2) w7).comp hp4.ext
            have nx : ¬ blk a2 x := by rintro ⟨ad, h, hb⟩; have := (hF.base ad h).1; omega
            have hX8 := hX.ext (by simp) xx nx
            have hW8 := hW.trans xx (fun k hk => by rintro ⟨ad, h, hb⟩; have := (hF.base ad h).1; omega)
            have ho8 := hp4.own
            have hO8 := hO.ext (by simp) xx (by rintro ⟨ad, h, hb⟩; have := (hF.base ad h).1; omega)
            obtain ⟨nn, hnn⟩ : ∃ nn, nn = i + (l.length - (i)) := ⟨_, rfl⟩
            rw [← hnn] at ho8 ⊢
            have Hnn := Lib.hid hnn
            clear hnn hp4 xx nx
            have hT1 : ∀ k, looks [(2, fun z => z.cell? ⟨g, 0, none⟩ = some (.int .i64 0))] k (w8) := looks_all ⟨hO8.cell 0 _ rfl, trivial⟩
            refine hK _ _ (looks [(2, fun z => z.cell? ⟨g, 0, none⟩ = some (.int .i64 0))]) ⟨.inr (.inr (fun x h => h)), trivial⟩ hT1 ?_
            clear hK K
            try simp only [Act.put, List.setIfInBounds_toArray, List.set_cons_zero, List.set_cons_succ]
            refine wpF_take 10 (v := .pointer (some ⟨x, 0, none⟩)) rfl (by kernel_rfl) (by kernel_rfl) (by kernel_rfl) (fun _ _ _ h => h) hT1 (by rfl) (by intro wq; go_simp) ?_
            simp only [Act.put, List.setIfInBounds_toArray, List.set_cons_zero, List.set_cons_succ]
            refine wpF_exec 11 rfl (by kernel_rfl) (by rfl) ?_
            intro K hK
            have y0 := hX8.cell 0 _ rfl
            have yf := hX8.fr 0
            go_simp
            have hX9 := hX8.set 0 (.slice a4 nn c4) (by simp)
            have hx9 : Ext (just x) w8 (w8.setCell ⟨x, 0, none⟩ (.slice a4 nn c4)) := Ext.setCell _ _ _ rfl
            generalize w8.setCell ⟨x, 0, none⟩ (.slice a4 nn c4) = w9 at *
            have hT2 : ∀ k, looks [(2, fun z => True)] k (w9) := looks_all ⟨trivial, trivial⟩
            refine hK _ _ (looks [(2, fun z => True)]) ⟨.inr (.inl (by kernel_rfl)), trivial⟩ hT2 ?_
            clear hK K
            try simp only [Act.put, List.setIfInBounds_toArray, List.set_cons_zero, List.set_cons_succ]
            refine wpF_done (by kernel_rfl) ?_ _
            have hlen : nn = E.length := by have hnr : (Go.Esc.newRow (⟨0, k, v, true⟩ : ChangeR)).length = 0 := rfl; rw [Hnn.out, HR.out, List.length_append, List.length_append, List.length_take, List.length_drop, hnr]; omega
            have ho9 : Own w9 w.heap.size a4 2 E.length c4 (rows PairR.cells E) := by
              have q := (ho8.ext hx9 (fun ad ha e => by have e : ad.block = x := e; have := (ho8.base ad ha).1; omega)).mono hB2
              rw [← rows_append, ← HR.out, hlen] at q
              exact q
            rw [hlen] at hX9
            have hWX : Ext (just x) w w9 := (hW8.mono (fun _ _ h => h.elim)).comp hx9
            clear hlen hX8 hW8 ho8 hx9
            go_wp2_with fail
            go_end0
            exact ⟨rfl, a4, c4, hX9, ho9, hWX⟩
        | false =>
          have z1 := hO.cell 1 _ rfl
          have z2 := hO.cell 2 _ rfl
          have hX1 : Rd (w5.alloc (.cells #[.string (str k), .string (str v)] 65)) (some ⟨w5.heap.size, 0, none⟩) (PairR.cells ⟨k, v⟩) := Rd.lit w5 #[.string (str k), .string (str v)] _ _
          go_wp2_with (at_builtin; refine wpList_append TPair rfl rfl rfl (ho1.alloc _) rfl hX1 rfl (one1Pair ⟨k, v⟩) ?c1 ?c2 ?c3 ?_)
          case c1 => unfold maxLen; omega
          case c2 => omega
          case c3 => first | omega | (simp; omega)
          intro a2 c2 w6 hp2
          have hF : Own w6 B a2 2 (i + 1) c2 (rows PairR.cells (l.take i ++ Go.Esc.newRow (⟨0, k, v, false⟩ : ChangeR))) := by have q := hp2.own; rw [rows_append]; exact q
          have xx := (Ext.alloc (blk a1) w5 (.cells #[.string (str k), .string (str v)] 65)).comp hp2.ext
          have nx : ∀ q, q < B → ¬ blk a1 q := fun q hq => by rintro ⟨ad, h, hb⟩; have := (ho1.base ad h).1; omega
          replace hX := hX.ext (by simp) xx (nx _ (by omega))
          replace hO := hO.ext (by simp) xx (nx _ (by omega))
          replace hW := hW.trans xx (fun k hk => nx k (by omega))
          replace hBs := Nat.le_trans hBs xx.size
          clear hp2 hX1 xx nx ho1 z1 z2 q3
          have hrr := kvRd_no hr hW
          have y0 : w6.cell? ⟨b, off + i * 2, none⟩ = some (.string (str r.key)) := rows_cell kPair hrr hrm 0 _ rfl
          clear hrr
          have q1 := hO.cell 1 _ rfl
          by_cases hk : r.key = k
          · have d3 : ((str r.key).toList == (str k).toList) = true := beqStrT hk
            have HR := Lib.hid (show E = (l.take i ++ Go.Esc.newRow (⟨0, k, v, false⟩ : ChangeR)) ++ l.drop (i + 1) by rw [HE.out]; unfold rowPut rowQ rowP; rw [← HP.out, hrm]; simp only; rw [if_pos hk])
            clear hk
            go_upto_region 8 with fail
            go_quiet (fail)
            have hxq := Ext.drewN no w6 nq
            generalize w6.drewN nq = w7 at *
            replace hW := hW.comp hxq
            replace hO := hO.ext (by simp) hxq (fun h => h)
            replace hX := hX.ext (by simp) hxq (fun h => h)
            replace hF := hF.ext hxq (fun _ _ h => h)
            replace hBs := Nat.le_trans hBs hxq.size
            clear hxq
            clear y0 q1 d3
            have q0 := hO.cell 0 _ rfl
            have x0 := hX.cell 0 _ rfl
            have xf := hX.fr 0
            have hcC : ∀ w, (Instr.sliceAt 32 (.slice (some ⟨b, off, none⟩) l.length lc) (some (.int .i64 ((i : Int) + 1))) none none).run Try.prog w = .ok (.slice (cutAt (some ⟨b, off, none⟩) lc (i + 1) 2) (l.length - (i + 1)) (lc - (i + 1))) w := fun w => run_cut_l TPair w (some ⟨b, off, none⟩) _ lc .i64 (i + 1) (by omega)
            have hf2 : Rd w7 (cutAt (some ⟨b, off, none⟩) lc (i + 1) 2) (rows PairR.cells (l.drop (i + 1))) := by have q := (kvRd_no hr hW).cutAt lc (i + 1) 2 (fun e => by rw [rows_length kPair]; exact Nat.mul_le_mul_right _ (by omega)); rwa [rows_drop kPair] at q
            go_upto_region 10 with fail
            refine wp_region_F [2] (looks [(2, fun z => z.cell? ⟨g, 0, none⟩ = some (.int .i64 0))]) (by kernel_rfl) ?_
            have hT0 : ∀ k, looks [(2, fun z => z.cell? ⟨g, 0, none⟩ = some (.int .i64 0))] k (w7.drew) := looks_all ⟨(hO.drew).cell 0 _ rfl, trivial⟩
            refine wpF_take 0 (v := ?_) rfl (by kernel_rfl) (by kernel_rfl) (by kernel_rfl) (fun _ _ _ h => h) hT0 (by rfl) ?_ ?_
            rotate_left
            · (intro wq; go_simp; try with_reducible rfl)
            simp only [Act.put, List.setIfInBounds_toArray, List.set_cons_zero, List.set_cons_succ]
            refine wpF_take 1 (v := ?_) rfl (by kernel_rfl) (by kernel_rfl) (by kernel_rfl) (fun _ _ _ h => h) hT0 (by rfl) ?_ ?_
            rotate_left
            · (intro wq; go_simp; try with_reducible rfl)
            simp only [Act.put, List.setIfInBounds_toArray, List.set_cons_zero, List.set_cons_succ]
            refine wpF_look 2 (v := .int .i64 0) rfl rfl (by kernel_rfl) (by kernel_rfl) (by kernel_rfl) (by kernel_rfl) (fun _ _ _ h => h) hT0 (by rfl) (fun w hS => by have hS : w.cell? ⟨g, 0, none⟩ = some (.int .i64 0) := hS; have q := hS; go_simp) ?_
            simp only [Act.put, List.setIfInBounds_toArray, List.set_cons_zero, List.set_cons_succ]
            refine wpF_take 3 (v := ?_) rfl (by kernel_rfl) (by kernel_rfl) (by kernel_rfl) (fun _ _ _ h => h) hT0 (by rfl) ?_ ?_
            rotate_left
            · (intro wq; go_simp; try with_reducible rfl)
            simp only [Act.put, List.setIfInBounds_toArray, List.set_cons_zero, List.set_cons_succ]
            refine wpF_take 4 (v := ?_) rfl (by kernel_rfl) (by kernel_rfl) (by kernel_rfl) (fun _ _ _ h => h) hT0 (by rfl) ?_ ?_
            rotate_left
            · (intro wq; go_simp; try with_reducible rfl)
            simp only [Act.put, List.setIfInBounds_toArray, List.set_cons_zero, List.set_cons_succ]
            refine wpF_take 5 (v := ?_) rfl (by kernel_rfl) (by kernel_rfl) (by kernel_rfl) (fun _ _ _ h => h) hT0 (by rfl) ?_ ?_
            rotate_left
            · (intro wq; go_simp; try with_reducible rfl)
            simp only [Act.put, List.setIfInBounds_toArray, List.set_cons_zero, List.set_cons_succ]
            refine wpF_take 6 (v := .slice (cutAt (some ⟨b, off, none⟩) lc (i + 1) 2) (l.length - (i + 1)) (lc - (i + 1))) rfl (by kernel_rfl) (by kernel_rfl) (by kernel_rfl) (fun _ _ _ h => h) hT0 (by rfl) (by intro wq; go_simp) ?_
            simp only [Act.put, List.setIfInBounds_toArray, List.set_cons_zero, List.set_cons_succ]
            refine wpF_take 8 (v := ?_) rfl (by kernel_rfl) (by kernel_rfl) (by kernel_rfl) (fun _ _ _ h => h) hT0 (by rfl) ?_ ?_
            rotate_left
            · (intro wq; go_simp; try with_reducible rfl)
            simp only [Act.put, List.setIfInBounds_toArray, List.set_cons_zero, List.set_cons_succ]
            refine wpF_take 9 (v := ?_) rfl (by kernel_rfl) (by kernel_rfl) (by kernel_rfl) (fun _ _ _ h => h) hT0 (by rfl) ?_ ?_
            rotate_left
            · (intro wq; go_simp; try with_reducible rfl)
            simp only [Act.put, List.setIfInBounds_toArray, List.set_cons_zero, List.set_cons_succ]
            refine wpF_exec 7 rfl (by kernel_rfl) (by rfl) ?_
            intro K hK
            refine op_append (m := l.length - (i + 1)) TPair rfl rfl hF.drew rfl (hf2.ext (Ext.drew no w7) (fun _ _ h => h)) (by rw [rows_length kPair, List.length_drop]) (onePair _) (by unfold maxLen; omega) (by omega) (by show B ≤ w7.heap.size; omega) ?_
            intro a4 c4 w8 hp4
            have xx := (Ext.drew (blk a2) w7).comp hp4.ext
            have nx : ¬ blk a2 x := by rintro ⟨ad, h, hb⟩; have := (hF.base ad h).1; omega
            have hX8 := hX.ext (by simp) xx nx
            have hW8 := hW.trans xx (fun k hk => by rintro ⟨ad, h, hb⟩; have := (hF.base ad h).1; omega)
            have ho8 := hp4.own
            have hO8 := hO.ext (by simp) xx (by rintro ⟨ad, h, hb⟩; have := (hF.base ad h).1; omega)
            obtain ⟨nn, hnn⟩ : ∃ nn, nn = (i + 1) + (l.length - (i + 1)) := ⟨_, rfl⟩
            rw [← hnn] at ho8 ⊢
            have Hnn := Lib.hid hnn
            clear hnn hp4 xx nx
            have hT1 : ∀ k, looks [(2, fun z => z.cell? ⟨g, 0, none⟩ = some (.int .i64 0))] k (w8) := looks_all ⟨hO8.cell 0 _ rfl, trivial⟩
            refine hK _ _ (looks [(2, fun z => z.cell? ⟨g, 0, none⟩ = some (.int .i64 0))]) ⟨.inr (.inr (fun x h => h)), trivial⟩ hT1 ?_
            clear hK K
            try simp only [Act.put, List.setIfInBounds_toArray, List.set_cons_zero, List.set_cons_succ]
            refine wpF_take 10 (v := .pointer (some ⟨x, 0, none⟩)) rfl (by kernel_rfl) (by kernel_rfl) (by kernel_rfl) (fun _ _ _ h => h) hT1 (by rfl) (by intro wq; go_simp) ?_
            simp only [Act.put, List.setIfInBounds_toArray, List.set_cons_zero, List.set_cons_succ]
            refine wpF_exec 11 rfl (by kernel_rfl) (by rfl) ?_
            intro K hK
            have y0 := hX8.cell 0 _ rfl
            have yf := hX8.fr 0
            go_simp
            have hX9 := hX8.set 0 (.slice a4 nn c4) (by simp)
            have hx9 : Ext (just x) w8 (w8.setCell ⟨x, 0, none⟩ (.slice a4 nn c4)) := Ext.setCell _ _ _ rfl
            generalize w8.setCell ⟨x, 0, none⟩ (.slice a4 nn c4) = w9 at *
            have hT2 : ∀ k, looks [(2, fun z => True)] k (w9) := looks_all ⟨trivial, trivial⟩
            refine hK _ _ (looks [(2, fun z => True)]) ⟨.inr (.inl (by kernel_rfl)), trivial⟩ hT2 ?_
            clear hK K
            try simp only [Act.put, List.setIfInBounds_toArray, List.set_cons_zero, List.set_cons_succ]
            refine wpF_done (by kernel_rfl) ?_ _
            have hlen : nn = E.length := by have hnr : (Go.Esc.newRow (⟨0, k, v, false⟩ : ChangeR)).length = 1 := rfl; rw [Hnn.out, HR.out, List.length_append, List.length_append, List.length_take, List.length_drop, hnr]; omega
            have ho9 : Own w9 w.heap.size a4 2 E.length c4 (rows PairR.cells E) := by
              have q := (ho8.ext hx9 (fun ad ha e => by have e : ad.block = x := e; have := (ho8.base ad ha).1; omega)).mono hB2
              rw [← rows_append, ← HR.out, hlen] at q
              exact q
            rw [hlen] at hX9
            have hWX : Ext (just x) w w9 := (hW8.mono (fun _ _ h => h.elim)).comp hx9
            clear hlen hX8 hW8 ho8 hx9
            go_wp2_with fail
            go_end0
            exact ⟨rfl, a4, c4, hX9, ho9, hWX⟩
          · have d3 : ((str r.key).toList == (str k).toList) = false := beqStrF hk
            have HR := Lib.hid (show E = (l.take i ++ Go.Esc.newRow (⟨0, k, v, false⟩ : ChangeR)) ++ l.drop (i) by rw [HE.out]; unfold rowPut rowQ rowP; rw [← HP.out, hrm]; simp only; rw [if_neg hk])
            clear hk
            go_upto_region 8 with fail
            go_quiet (fail)
            have hxq := Ext.drewN no w6 nq
            generalize w6.drewN nq = w7 at *
            replace hW := hW.comp hxq
            replace hO := hO.ext (by simp) hxq (fun h => h)
            replace hX := hX.ext (by simp) hxq (fun h => h)
            replace hF := hF.ext hxq (fun _ _ h => h)
            replace hBs := Nat.le_trans hBs hxq.size
            clear hxq
            clear y0 q1 d3
            have q0 := hO.cell 0 _ rfl
            have x0 := hX.cell 0 _ rfl
            have xf := hX.fr 0
            have hcC : ∀ w, (Instr.sliceAt 32 (.slice (some ⟨b, off, none⟩) l.length lc) (some (.int .i64 (i : Int))) none none).run Try.prog w = .ok (.slice (cutAt (some ⟨b, off, none⟩) lc (i) 2) (l.length - (i)) (lc - (i))) w := fun w => run_cut_l TPair w (some ⟨b, off, none⟩) _ lc .i64 (i) (by omega)
            have hf2 : Rd w7 (cutAt (some ⟨b, off, none⟩) lc (i) 2) (rows PairR.cells (l.drop (i))) := by have q := (kvRd_no hr hW).cutAt lc (i) 2 (fun e => by rw [rows_length kPair]; exact Nat.mul_le_mul_right _ (by omega)); rwa [rows_drop kPair] at q
            go_upto_region 10 with fail
            refine wp_region_F [2] (looks [(2, fun z => z.cell? ⟨g, 0, none⟩ = some (.int .i64 0))]) (by kernel_rfl) ?_
            have hT0 : ∀ k, looks [(2, fun z => z.cell? ⟨g, 0, none⟩ = some (.int .i64 0))] k (w7.drew) := looks_all ⟨(hO.drew).cell 0 _ rfl, trivial⟩
            refine wpF_take 0 (v := ?_) rfl (by kernel_rfl) (by kernel_rfl) (by kernel_rfl) (fun _ _ _ h => h) hT0 (by rfl) ?_ ?_
            rotate_left
            · (intro wq; go_simp; try with_reducible rfl)
            simp only [Act.put, List.setIfInBounds_toArray, List.set_cons_zero, List.set_cons_succ]
            refine wpF_take 1 (v := ?_) rfl (by kernel_rfl) (by kernel_rfl) (by kernel_rfl) (fun _ _ _ h => h) hT0 (by rfl) ?_ ?_
            rotate_left
            · (intro wq; go_simp; try with_reducible rfl)
            simp only [Act.put, List.setIfInBounds_toArray, List.set_cons_zero, List.set_cons_succ]
            refine wpF_look 2 (v := .int .i64 0) rfl rfl (by kernel_rfl) (by kernel_rfl) (by kernel_rfl) (by kernel_rfl) (fun _ _ _ h => h) hT0 (by rfl) (fun w hS => by have hS : w.cell? ⟨g, 0, none⟩ = some (.int .i64 0) := hS; have q := hS; go_simp) ?_
            simp only [Act.put, List.setIfInBounds_toArray, List.set_cons_zero, List.set_cons_succ]
            refine wpF_take 3 (v := ?_) rfl (by kernel_rfl) (by kernel_rfl) (by kernel_rfl) (fun _ _ _ h => h) hT0 (by rfl) ?_ ?_
            rotate_left
            · (intro wq; go_simp; try with_reducible rfl)
            simp only [Act.put, List.setIfInBounds_toArray, List.set_cons_zero, List.set_cons_succ]
            refine wpF_take 4 (v := ?_) rfl (by kernel_rfl) (by kernel_rfl) (by kernel_rfl) (fun _ _ _ h => h) hT0 (by rfl) ?_ ?_
            rotate_left
            · (intro wq; go_simp; try with_reducible rfl)
            simp only [Act.put, List.setIfInBounds_toArray, List.set_cons_zero, List.set_cons_succ]
            refine wpF_take 5 (v := ?_) rfl (by kernel_rfl) (by kernel_rfl) (by kernel_rfl) (fun _ _ _ h => h) hT0 (by rfl) ?_ ?_
            rotate_left
            · (intro wq; go_simp; try with_reducible rfl)
            simp only [Act.put, List.setIfInBounds_toArray, List.set_cons_zero, List.set_cons_succ]
            refine wpF_take 6 (v := .slice (cutAt (some ⟨b, off, none⟩) lc (i) 2) (l.length - (i)) (lc - (i))) rfl (by kernel_rfl) (by kernel_rfl) (by kernel_rfl) (fun _ _ _ h => h) hT0 (by rfl) (by intro wq; go_simp) ?_
            simp only [Act.put, List.setIfInBounds_toArray, List.set_cons_zero, List.set_cons_succ]
            refine wpF_take 8 (v := ?_) rfl (by kernel_rfl) (by kernel_rfl) (by kernel_rfl) (fun _ _ _ h => h) hT0 (by rfl) ?_ ?_
            rotate_left
            · (intro wq; go_simp; try with_reducible rfl)
            simp only [Act.put, List.setIfInBounds_toArray, List.set_cons_zero, List.set_cons_succ]
            refine wpF_take 9 (v := ?_) rfl (by kernel_rfl) (by kernel_rfl) (by kernel_rfl) (fun _ _ _ h => h) hT0 (by rfl) ?_ ?_
            rotate_left
            · (intro wq; go_simp; try with_reducible rfl)
            simp only [Act.put, List.setIfInBounds_toArray, List.set_cons_zero, List.set_cons_succ]
            refine wpF_exec 7 rfl (by kernel_rfl) (by rfl) ?_
            intro K hK
            refine op_append (m := l.length - (i)) TPair rfl rfl hF.drew rfl (hf2.ext (Ext.drew no w7) (fun _ _ h => h)) (by rw [rows_length kPair, List.length_drop]) (onePair _) (by unfold maxLen; omega) (by omega) (by show B ≤ w7.heap.size; omega) ?_
            intro a4 c4 w8 hp4
            have xx := (Ext.drew (blk a2) w7).comp hp4.ext
            have nx : ¬ blk a2 x := by rintro ⟨ad, h, hb⟩; have := (hF.base ad h).1; omega
            have hX8 := hX.ext (by simp) xx nx
            have hW8 := hW.trans xx (fun k hk => by rintro ⟨ad, h, hb⟩; have := (hF.base ad h).1; omega)
            have ho8 := hp4.own
            have hO8 := hO.ext (by simp) xx (by rintro ⟨ad, h, hb⟩; have := (hF.base ad h).1; omega)
            obtain ⟨nn, hnn⟩ : ∃ nn, nn = (i + 1) + (l.length - (i)) := ⟨_, rfl⟩
            rw [← hnn] at ho8 ⊢
            have Hnn := Lib.hid hnn
            clear hnn hp4 xx nx
            have hT1 : ∀ k, looks [(2, fun z => z.cell? ⟨g, 0, none⟩ = some (.int .i64 0))] k (w8) := looks_all ⟨hO8.cell 0 _ rfl, trivial⟩
            refine hK _ _ (looks [(2, fun z => z.cell? ⟨g, 0, none⟩ = some (.int .i64 0))]) ⟨.inr (.inr (fun x h => h)), trivial⟩ hT1 ?_
            clear hK K
            try simp only [Act.put, List.setIfInBounds_toArray, List.set_cons_zero, List.set_cons_succ]
            refine wpF_take 10 (v := .pointer (some ⟨x, 0, none⟩)) rfl (by kernel_rfl) (by kernel_rfl) (by kernel_rfl) (fun _ _ _ h => h) hT1 (by rfl) (by intro wq; go_simp) ?_
            simp only [Act.put, List.setIfInBounds_toArray, List.set_cons_zero, List.set_cons_succ]
            refine wpF_exec 11 rfl (by kernel_rfl) (by rfl) ?_
            intro K hK
            have y0 := hX8.cell 0 _ rfl
            have yf := hX8.fr 0
            go_simp
            have hX9 := hX8.set 0 (.slice a4 nn c4) (by simp)
            have hx9 : Ext (just x) w8 (w8.setCell ⟨x, 0, none⟩ (.slice a4 nn c4)) := Ext.setCell _ _ _ rfl
            generalize w8.setCell ⟨x, 0, none⟩ (.slice a4 nn c4) = w9 at *
            have hT2 : ∀ k, looks [(2, fun z => True)] k (w9) := looks_all ⟨trivial, trivial⟩
            refine hK _ _ (looks [(2, fun z => True)]) ⟨.inr (.inl (by kernel_rfl)), trivial⟩ hT2 ?_
            clear hK K
            try simp only [Act.put, List.setIfInBounds_toArray, List.set_cons_zero, List.set_cons_succ]
            refine wpF_done (by kernel_rfl) ?_ _
            have hlen : nn = E.length := by have hnr : (Go.Esc.newRow (⟨0, k, v, false⟩ : ChangeR)).length = 1 := rfl; rw [Hnn.out, HR.out, List.length_append, List.length_append, List.length_take, List.length_drop, hnr]; omega
            have ho9 : Own w9 w.heap.size a4 2 E.length c4 (rows PairR.cells E) := by
              have q := (ho8.ext hx9 (fun ad ha e => by have e : ad.block = x := e; have := (ho8.base ad ha).1; omega)).mono hB2
              rw [← rows_append, ← HR.out, hlen] at q
              exact q
            rw [hlen] at hX9
            have hWX : Ext (just x) w w9 := (hW8.mono (fun _ _ h => h.elim)).comp hx9
            clear hlen hX8 hW8 ho8 hx9
            go_wp2_with fail
            go_end0
            exact ⟨rfl, a4, c4, hX9, ho9, hWX⟩
      · have d1 : decide (i < l.length) = false := decF hPn
        go_upto_region 3 with fail
        go_quiet (fail)
        have hxq := Ext.drewN no wr nq
        generalize wr.drewN nq = wz at *
        replace hW := hW.comp hxq
        replace hO := hO.ext (by simp) hxq (fun h => h)
        replace hX := hX.ext (by simp) hxq (fun h => h)
        clear hxq
        clear q1
        have hA0 : Ext no w (wz.alloc (.cells #[] 65)) := hW.comp (Ext.alloc no _ _)
        have hf : Rd (wz.alloc (.cells #[] 65)) la (rows PairR.cells (l.take i)) := by have q := (kvRd_no hr hA0).take (i * 2); rwa [rows_take kPair] at q
        obtain ⟨B, hB⟩ : ∃ B, B = wz.heap.size := ⟨_, rfl⟩
        have hz : Own (wz.alloc (.cells #[] 65)) B (some ⟨wz.heap.size, 0, none⟩) 2 0 0 [] := by rw [hB]; exact Own.fresh wz _ _ _ _ _ _ _ _ (Nat.le_refl _) (by simp) (Nat.le_refl _) (Nat.zero_le _) (by simp) (by simp) (.inl (Nat.le_refl _))
        have hcA : ∀ w, (Instr.sliceAt 32 (.slice la l.length lc) none (some (.int .i64 (i : Int))) none).run Try.prog w = .ok (.slice la i lc) w := fun w => run_cut_h TPair w la _ lc .i64 i (by omega)
        have hB1 : g < B := by have := hO.lt (by simp); omega
        have hB2 : w.heap.size ≤ B := by omega
        have hB3 : B ≤ wz.heap.size := by omega
        have hB4 : wz.heap.size ≤ B := by omega
        clear hB
        go_wp2_with (at_builtin; refine wpList_append TPair rfl rfl rfl hz rfl hf (by rw [rows_length kPair, List.length_take]; congr 1; omega) (onePair _) ?c1 ?c2 (by simp; omega) ?_)
        case c1 => unfold maxLen; omega
        case c2 => omega
        intro a1 c1 w5 hp1
        try rw [Nat.zero_add]
        have ho1 := hp1.own
        rw [Nat.zero_add, List.nil_append] at ho1
        have hxA : Ext no wz w5 := (Ext.alloc no _ _).trans hp1.ext (fun k hk => by rintro ⟨ad, h, hb⟩; cases h; simp only at hb; omega)
        have hBs : B ≤ w5.heap.size := by have := hxA.size; omega
        clear hp1 hz hf hcA hB3 hB4 hA0
        replace hW := hW.comp hxA
        replace hO := hO.ext (by simp) hxA (fun h => h)
        replace hX := hX.ext (by simp) hxA (fun h => h)
        clear hxA
        have q3 := hO.cell 3 _ rfl
        cases d with
        | true =>
          have hF : Own w5 B a1 2 i c1 (rows PairR.cells (l.take i ++ Go.Esc.newRow (⟨0, k, v, true⟩ : ChangeR))) := by have e : Go.Esc.newRow (⟨0, k, v, true⟩ : ChangeR) = [] := rfl; rw [e, List.append_nil]; exact ho1
          clear ho1
          go_upto_region 8 with fail
          clear q3
          generalize w5 = w6 at *
          obtain ⟨a2, ha2⟩ : ∃ a2, a2 = a1 := ⟨_, rfl⟩
          obtain ⟨c2, hc2⟩ : ∃ c2, c2 = c1 := ⟨_, rfl⟩
          rw [← ha2, ← hc2] at hF ⊢
          clear ha2 hc2
          have HR := Lib.hid (show E = (l.take i ++ Go.Esc.newRow (⟨0, k, v, true⟩ : ChangeR)) ++ l.drop (i) by rw [HE.out]; unfold rowPut rowQ rowP; rw [← HP.out, List.getElem?_eq_none (by omega)])
          go_upto_region 8 with fail
          go_quiet (fail)
          have hxq := Ext.drewN no w6 nq
          generalize w6.drewN nq = w7 at *
          replace hW := hW.comp hxq
          replace hO := hO.ext (by simp) hxq (fun h => h)
          replace hX := hX.ext (by simp) hxq (fun h => h)
          replace hF := hF.ext hxq (fun _ _ h => h)
          replace hBs := Nat.le_trans hBs hxq.size
          clear hxq
          have q0 := hO.cell 0 _ rfl
          have x0 := hX.cell 0 _ rfl
          have xf := hX.fr 0
          have hcC : ∀ w, (Instr.sliceAt 32 (.slice la l.length lc) (some (.int .i64 (i : Int))) none none).run Try.prog w = .ok (.slice (cutAt la lc (i) 2) (l.length - (i)) (lc - (i))) w := fun w => run_cut_l TPair w la _ lc .i64 (i) (by omega)
          have hf2 : Rd w7 (cutAt la lc (i) 2) (rows PairR.cells (l.drop (i))) := by have q := (kvRd_no hr hW).cutAt lc (i) 2 (fun e => by rw [rows_length kPair]; exact Nat.mul_le_mul_right _ (by omega)); rwa [rows_drop kPair] at q
          go_upto_region 10 with fail
          refine wp_region_F [2] (looks [(2, fun z => z.cell? ⟨g, 0, none⟩ = some (.int .i64 0))]) (by kernel_rfl) ?_
          have hT0 : ∀ k, looks [(2, fun z => z.cell? ⟨g, 0, none⟩ = some (.int .i64 0))] k (w7.drew) := looks_all ⟨(hO.drew).cell 0 _ rfl, trivial⟩
          refine wpF_take 0 (v := ?_) rfl (by kernel_rfl) (by kernel_rfl) (by kernel_rfl) (fun _ _ _ h => h) hT0 (by rfl) ?_ ?_
          rotate_left
          · (intro wq; go_simp; try with_reducible rfl)
          simp only [Act.put, List.setIfInBounds_toArray, List.set_cons_zero, List.set_cons_succ]
          refine wpF_take 1 (v := ?_) rfl (by kernel_rfl) (by kernel_rfl) (by kernel_rfl) (fun _ _ _ h => h) hT0 (by rfl) ?_ ?_
          rotate_left
          · (intro wq; go_simp; try with_reducible rfl)
          simp only [Act.put, List.setIfInBounds_toArray, List.set_cons_zero, List.set_cons_succ]
          refine wpF_look 2 (v := .int .i64 0) rfl rfl (by kernel_rfl) (by kernel_rfl) (by kernel_rfl) (by kernel_rfl) (fun _ _ _ h => h) hT0 (by rfl) (fun w hS => by have hS : w.cell? ⟨g, 0, none⟩ = some (.int .i64 0) := hS; have q := hS; go_simp) ?_
          simp only [Act.put, List.setIfInBounds_toArray, List.set_cons_zero, List.set_cons_succ]
          refine wpF_take 3 (v := ?_) rfl (by kernel_rfl) (by kernel_rfl) (by kernel_rfl) (fun _ _ _ h => h) hT0 (by rfl) ?_ ?_
          rotate_left
          · (intro wq; go_simp; try with_reducible rfl)
          simp only [Act.put, List.setIfInBounds_toArray, List.set_cons_zero, List.set_cons_succ]
          refine wpF_take 4 (v := ?_) rfl (by kernel_rfl) (by kernel_rfl) (by kernel_rfl) (fun _ _ _ h => h) hT0 (by rfl) ?_ ?_
          rotate_left
          · (intro wq; go_simp; try with_reducible rfl)
          simp only [Act.put, List.setIfInBounds_toArray, List.set_cons_zero, List.set_cons_succ]
          refine wpF_take 5 (v := ?_) rfl (by kernel_rfl) (by kernel_rfl) (by kernel_rfl) (fun _ _ _ h => h) hT0 (by rfl) ?_ ?_
          rotate_left
          · (intro wq; go_simp; try with_reducible rfl)
          simp only [Act.put, List.setIfInBounds_toArray, List.set_cons_zero, List.set_cons_succ]
          refine wpF_take 6 (v := .slice (cutAt la lc (i) 2) (l.length - (i)) (lc - (i))) rfl (by kernel_rfl) (by kernel_rfl) (by kernel_rfl) (fun _ _ _ h => h) hT0 (by rfl) (by intro wq; go_simp) ?_
          simp only [Act.put, List.setIfInBounds_toArray, List.set_cons_zero, List.set_cons_succ]
          refine wpF_take 8 (v := ?_) rfl (by kernel_rfl) (by kernel_rfl) (by kernel_rfl) (fun _ _ _ h => h) hT0 (by rfl) ?_ ?_
          rotate_left
          · (intro wq; go_simp; try with_reducible rfl)
          simp only [Act.put, List.setIfInBounds_toArray, List.set_cons_zero, List.set_cons_succ]
          refine wpF_take 9 (v := ?_) rfl (by kernel_rfl) (by kernel_rfl) (by kernel_rfl) (fun _ _ _ h => h) hT0 (by rfl) ?_ ?_
          rotate_left
          · (intro wq; go_simp; try with_reducible rfl)
          simp only [Act.put, List.setIfInBounds_toArray, List.set_cons_zero, List.set_cons_succ]
          refine wpF_exec 7 rfl (by kernel_rfl) (by rfl) ?_
          intro K hK
          refine op_append (m := l.length - (i)) TPair rfl rfl hF.drew rfl (hf2.ext (Ext.drew no w7) (fun _ _ h => h)) (by rw [rows_length kPair, List.length_drop]) (onePair _) (by unfold maxLen; omega) (by omega) (by show B ≤ w7.heap.size; omega) ?_
          intro a4 c4 w8 hp4
          have xx := (Ext.drew (blk a2) w7).comp hp4.ext
          have nx : ¬ blk a2 x := by rintro ⟨ad, h, hb⟩; have := (hF.base ad h).1; omega
          have hX8 := hX.ext (by simp) xx nx
          have hW8 := hW.trans xx (fun k hk => by rintro ⟨ad, h, hb⟩; have := (hF.base ad h).1; omega)
          have ho8 := hp4.own
          have hO8 := hO.ext (by simp) xx (by rintro ⟨ad, h, hb⟩; have := (hF.base ad h).1; omega)
          obtain ⟨nn, hnn⟩ : ∃ nn, nn = i + (l.length - (i)) := ⟨_, rfl⟩
          rw [← hnn] at ho8 ⊢
          have Hnn := Lib.hid hnn
          clear hnn hp4 xx nx
          have hT1 : ∀ k, looks [(2, fun z => z.cell? ⟨g, 0, none⟩ = some (.int .i64 0))] k (w8) := looks_all ⟨hO8.cell 0 _ rfl, trivial⟩
          refine hK _ _ (looks [(2, fun z => z.cell? ⟨g, 0, none⟩ = some (.int .i64 0))]) ⟨.inr (.inr (fun x h => h)), trivial⟩ hT1 ?_
          clear hK K
          try simp only [Act.put, List.setIfInBounds_toArray, List.set_cons_zero, List.set_cons_succ]
          refine wpF_take 10 (v := .pointer (some ⟨x, 0, none⟩)) rfl (by kernel_rfl) (by kernel_rfl) (by kernel_rfl) (fun _ _ _ h => h) hT1 (by rfl) (by intro wq; go_simp) ?_
          simp only [Act.put, List.setIfInBounds_toArray, List.set_cons_zero, List.set_cons_succ]
          refine wpF_exec 11 rfl (by kernel_rfl) (by rfl) ?_
          intro K hK
          have y0 := hX8.cell 0 _ rfl
          have yf := hX8.fr 0
          go_simp
          have hX9 := hX8.set 0 (.slice a4 nn c4) (by simp)
          have hx9 : Ext (just x) w8 (w8.setCell ⟨x, 0, none⟩ (.slice a4 nn c4)) := Ext.setCell _ _ _ rfl
          generalize w8.setCell ⟨x, 0, none⟩ (.slice a4 nn c4) = w9 at *
          have hT2 : ∀ k, looks [(2, fun z => True)] k (w9) := looks_all ⟨trivial, trivial⟩
          refine hK _ _ (looks [(2, fun z => True)]) ⟨.inr (.inl (by kernel_rfl)), trivial⟩ hT2 ?_
          clear hK K
          try simp only [Act.put, List.setIfInBounds_toArray, List.set_cons_zero, List.set_cons_succ]
          refine wpF_done (by kernel_rfl) ?_ _
          have hlen : nn = E.length := by have hnr : (Go.Esc.newRow (⟨0, k, v, true⟩ : ChangeR)).length = 0 := rfl; rw [Hnn.out, HR.out, List.length_append, List.length_append, List.length_take, List.length_drop, hnr]; omega
          have ho9 : Own w9 w.heap.size a4 2 E.length c4 (rows PairR.cells E) := by
            have q := (ho8.ext hx9 (fun ad ha e => by have e : ad.block = x := e; have := (ho8.base ad ha).1; omega)).mono hB2
            rw [← rows_append, ← HR.out, hlen] at q
            exact q
          rw [hlen] at hX9
          have hWX : Ext (just x) w w9 := (hW8.mono (fun _ _ h => h.elim)).comp hx9
          clear hlen hX8 hW8 ho8 hx9
          go_wp2_with fail
          go_end0
          exact ⟨rfl, a4, c4, hX9, ho9, hWX⟩
        | false =>
          have z1 := hO.cell 1 _ rfl
          have z2 := hO.cell 2 _ rfl
          have hX1 : Rd (w5.alloc (.cells #[.string (str k), .string (str v)] 65)) (some ⟨w5.heap.size, 0, none⟩) (PairR.cells ⟨k, v⟩) := Rd.lit w5 #[.string (str k), .string (str v)] _ _
          go_wp2_with (at_builtin; refine wpList_append TPair rfl rfl rfl (ho1.alloc _) rfl hX1 rfl (one1Pair ⟨k, v⟩) ?c1 ?c2 ?c3 ?_)
          case c1 => unfold maxLen; omega
          case c2 => omega
          case c3 => first | omega | (simp; omega)
          intro a2 c2 w6 hp2
          have hF : Own w6 B a2 2 (i + 1) c2 (rows PairR.cells (l.take i ++ Go.Esc.newRow (⟨0, k, v, false⟩ : ChangeR))) := by have q := hp2.own; rw [rows_append]; exact q
          have xx := (Ext.alloc (blk a1) w5 (.cells #[.string (str k), .string (str v)] 65)).comp hp2.ext
          have nx : ∀ q, q < B → ¬ blk a1 q := fun q hq => by rintro ⟨ad, h, hb⟩; have := (ho1.base ad h).1; omega
          replace hX := hX.ext (by simp) xx (nx _ (by omega))
          replace hO := hO.ext (by simp) xx (nx _ (by omega))
          replace hW := hW.trans xx (fun k hk => nx k (by omega))
          replace hBs := Nat.le_trans hBs xx.size
          clear hp2 hX1 xx nx ho1 z1 z2 q3
          have HR := Lib.hid (show E = (l.take i ++ Go.Esc.newRow (⟨0, k, v, false⟩ : ChangeR)) ++ l.drop (i) by rw [HE.out]; unfold rowPut rowQ rowP; rw [← HP.out, List.getElem?_eq_none (by omega)])
          go_upto_region 8 with fail
          go_quiet (fail)
          have hxq := Ext.drewN no w6 nq
          generalize w6.drewN nq = w7 at *
          replace hW := hW.comp hxq
          replace hO := hO.ext (by simp) hxq (fun h => h)
          replace hX := hX.ext (by simp) hxq (fun h => h)
          replace hF := hF.ext hxq (fun _ _ h => h)
          replace hBs := Nat.le_trans hBs hxq.size
          clear hxq
          have q0 := hO.cell 0 _ rfl
          have x0 := hX.cell 0 _ rfl
          have xf := hX.fr 0
          have hcC : ∀ w, (Instr.sliceAt 32 (.slice la l.length lc) (some (.int .i64 (i : Int))) none none).run Try.prog w = .ok (.slice (cutAt la lc (i) 2) (l.length - (i)) (lc - (i))) w := fun w => run_cut_l TPair w la _ lc .i64 (i) (by omega)
          have hf2 : Rd w7 (cutAt la lc (i) 2) (rows PairR.cells (l.drop (i))) := by have q := (kvRd_no hr hW).cutAt lc (i) 2 (fun e => by rw [rows_length kPair]; exact Nat.mul_le_mul_right _ (by omega)); rwa [rows_drop kPair] at q
          go_upto_region 10 with fail
          refine wp_region_F [2] (looks [(2, fun z => z.cell? ⟨g, 0, none⟩ = some (.int .i64 0))]) (by kernel_rfl) ?_
          have hT0 : ∀ k, looks [(2, fun z => z.cell? ⟨g, 0, none⟩ = some (.int .i64 0))] k (w7.drew) := looks_all ⟨(hO.drew).cell 0 _ rfl, trivial⟩
          refine wpF_take 0 (v := ?_) rfl (by kernel_rfl) (by kernel_rfl) (by kernel_rfl) (fun _ _ _ h => h) hT0 (by rfl) ?_ ?_
          rotate_left
          · (intro wq; go_simp; try with_reducible rfl)
          simp only [Act.put, List.setIfInBounds_toArray, List.set_cons_zero, List.set_cons_succ]
          refine wpF_take 1 (v := ?_) rfl (by kernel_rfl) (by kernel_rfl) (by kernel_rfl) (fun _ _ _ h => h) hT0 (by rfl) ?_ ?_
          rotate_left
          · (intro wq; go_simp; try with_reducible rfl)
          simp only [Act.put, List.setIfInBounds_toArray, List.set_cons_zero, List.set_cons_succ]
          refine wpF_look 2 (v := .int .i64 0) rfl rfl (by kernel_rfl) (by kernel_rfl) (by kernel_rfl) (by kernel_rfl) (fun _ _ _ h => h) hT0 (by rfl) (fun w hS => by have hS : w.cell? ⟨g, 0, none⟩ = some (.int .i64 0) := hS; have q := hS; go_simp) ?_
          simp only [Act.put, List.setIfInBounds_toArray, List.set_cons_zero, List.set_cons_succ]
          refine wpF_take 3 (v := ?_) rfl (by kernel_rfl) (by kernel_rfl) (by kernel_rfl) (fun _ _ _ h => h) hT0 (by rfl) ?_ ?_
          rotate_left
          · (intro wq; go_simp; try with_reducible rfl)
          simp only [Act.put, List.setIfInBounds_toArray, List.set_cons_zero, List.set_cons_succ]
          refine wpF_take 4 (v := ?_) rfl (by kernel_rfl) (by kernel_rfl) (by kernel_rfl) (fun _ _ _ h => h) hT0 (by rfl) ?_ ?_
          rotate_left
          · (intro wq; go_simp; try with_reducible rfl)
          simp only [Act.put, List.setIfInBounds_toArray, List.set_cons_zero, List.set_cons_succ]
          refine wpF_take 5 (v := ?_) rfl (by kernel_rfl) (by kernel_rfl) (by kernel_rfl) (fun _ _ _ h => h) hT0 (by rfl) ?_ ?_
          rotate_left
          · (intro wq; go_simp; try with_reducible rfl)
          simp only [Act.put, List.setIfInBounds_toArray, List.set_cons_zero, List.set_cons_succ]
          refine wpF_take 6 (v := .slice (cutAt la lc (i) 2) (l.length - (i)) (lc - (i))) rfl (by kernel_rfl) (by kernel_rfl) (by kernel_rfl) (fun _ _ _ h => h) hT0 (by rfl) (by intro wq; go_simp) ?_
          simp only [Act.put, List.setIfInBounds_toArray, List.set_cons_zero, List.set_cons_succ]
          refine wpF_take 8 (v := ?_) rfl (by kernel_rfl) (by kernel_rfl) (by kernel_rfl) (fun _ _ _ h => h) hT0 (by rfl) ?_ ?_
          rotate_left
          · (intro wq; go_simp; try with_reducible rfl)
          simp only [Act.put, List.setIfInBounds_toArray, List.set_cons_zero, List.set_cons_succ]
          refine wpF_take 9 (v := ?_) rfl (by kernel_rfl) (by kernel_rfl) (by kernel_rfl) (fun _ _ _ h => h) hT0 (by rfl) ?_ ?_
          rotate_left
          · (intro wq; go_simp; try with_reducible rfl)
          simp only [Act.put, List.setIfInBounds_toArray, List.set_cons_zero, List.set_cons_succ]
          refine wpF_exec 7 rfl (by kernel_rfl) (by rfl) ?_
          intro K hK
          refine op_append (m := l.length - (i)) TPair rfl rfl hF.drew rfl (hf2.ext (Ext.drew no w7) (fun _ _ h => h)) (by rw [rows_length kPair, List.length_drop]) (onePair _) (by unfold maxLen; omega) (by omega) (by show B ≤ w7.heap.size; omega) ?_
          intro a4 c4 w8 hp4
          have xx := (Ext.drew (blk a2) w7).comp hp4.ext
          have nx : ¬ blk a2 x := by rintro ⟨ad, h, hb⟩; have := (hF.base ad h).1; omega
          have hX8 := hX.ext (by simp) xx nx
          have hW8 := hW.trans xx (fun k hk => by rintro ⟨ad, h, hb⟩; have := (hF.base ad h).1; omega)
          have ho8 := hp4.own
          have hO8 := hO.ext (by simp) xx (by rintro ⟨ad, h, hb⟩; have := (hF.base ad h).1; omega)
          obtain ⟨nn, hnn⟩ : ∃ nn, nn = (i + 1) + (l.length - (i)) := ⟨_, rfl⟩
          rw [← hnn] at ho8 ⊢
          have Hnn := Lib.hid hnn
          clear hnn hp4 xx nx
          have hT1 : ∀ k, looks [(2, fun z => z.cell? ⟨g, 0, none⟩ = some (.int .i64 0))] k (w8) := looks_all ⟨hO8.cell 0 _ rfl, trivial⟩
          refine hK _ _ (looks [(2, fun z => z.cell? ⟨g, 0, none⟩ = some (.int .i64 0))]) ⟨.inr (.inr (fun x h => h)), trivial⟩ hT1 ?_
          clear hK K
          try simp only [Act.put, List.setIfInBounds_toArray, List.set_cons_zero, List.set_cons_succ]
          refine wpF_take 10 (v := .pointer (some ⟨x, 0, none⟩)) rfl (by kernel_rfl) (by kernel_rfl) (by kernel_rfl) (fun _ _ _ h => h) hT1 (by rfl) (by intro wq; go_simp) ?_
          simp only [Act.put, List.setIfInBounds_toArray, List.set_cons_zero, List.set_cons_succ]
          refine wpF_exec 11 rfl (by kernel_rfl) (by rfl) ?_
          intro K hK
          have y0 := hX8.cell 0 _ rfl
          have yf := hX8.fr 0
          go_simp
          have hX9 := hX8.set 0 (.slice a4 nn c4) (by simp)
          have hx9 : Ext (just x) w8 (w8.setCell ⟨x, 0, none⟩ (.slice a4 nn c4)) := Ext.setCell _ _ _ rfl
          generalize w8.setCell ⟨x, 0, none⟩ (.slice a4 nn c4) = w9 at *
          have hT2 : ∀ k, looks [(2, fun z => True)] k (w9) := looks_all ⟨trivial, trivial⟩
          refine hK _ _ (looks [(2, fun z => True)]) ⟨.inr (.inl (by kernel_rfl)), trivial⟩ hT2 ?_
          clear hK K
          try simp only [Act.put, List.setIfInBounds_toArray, List.set_cons_zero, List.set_cons_succ]
          refine wpF_done (by kernel_rfl) ?_ _
          have hlen : nn = E.length := by have hnr : (Go.Esc.newRow (⟨0, k, v, false⟩ : ChangeR)).length = 1 := rfl; rw [Hnn.out, HR.out, List.length_append, List.length_append, List.length_take, List.length_drop, hnr]; omega
          have ho9 : Own w9 w.heap.size a4 2 E.length c4 (rows PairR.cells E) := by
            have q := (ho8.ext hx9 (fun ad ha e => by have e : ad.block = x := e; have := (ho8.base ad ha).1; omega)).mono hB2
            rw [← rows_append, ← HR.out, hlen] at q
            exact q
          rw [hlen] at hX9
          have hWX : Ext (just x) w w9 := (hW8.mono (fun _ _ h => h.elim)).comp hx9
          clear hlen hX8 hW8 ho8 hx9
          go_wp2_with fail
          go_end0
          exact ⟨rfl, a4, c4, hX9, ho9, hWX⟩
set_option maxRecDepth 100000 in
set_option maxHeartbeats 8000000 in
theorem rput1_any (w : World) (x : Nat) (v0 v1 v2 : Value) (la : Option Addr) (l : List PairR) (lc : Nat) (k v : List UInt8) (d : Bool) (hX : Blk w x [v0, .slice la l.length lc, v2]) (hr : Rd w la (rows PairR.cells l)) (hl : l.length ≤ 1099511627775) (hlc : l.length ≤ lc) :
    Calls Try.prog 39 #[.pointer (some ⟨x, 0, none⟩), .agg #[.int .i64 1, .string (str k), .string (str v), .bool d]] w fun e w' => e = .returned (.tuple #[]) ∧ ∃ a' c', Blk w' x ([v0, .slice la l.length lc, v2].set 1 (.slice a' (rowPut l (⟨1, k, v, d⟩ : ChangeR)).length c')) ∧ Own w' w.heap.size a' 2 (rowPut l (⟨1, k, v, d⟩ : ChangeR)).length c' (rows PairR.cells (rowPut l (⟨1, k, v, d⟩ : ChangeR))) ∧ Ext (just x) w w' := by
  obtain ⟨E, hE⟩ : ∃ E, E = rowPut l (⟨1, k, v, d⟩ : ChangeR) := ⟨_, rfl⟩
  rw [← hE]
  have HE := Lib.hid hE
  clear hE
  have hxl := hX.lt (by simp)
  obtain ⟨P, hP⟩ : ∃ P, P = posOf PairR.key Op.bytesLess k l := ⟨_, rfl⟩
  have hPl : P ≤ l.length := by rw [hP]; exact posOf_le _ _
  have HL := Lib.hid (show ∀ (j : Nat) x, j < P → l[j]? = some x → Op.bytesLess x.key k = true by rw [hP]; exact pos_lt _ _)
  have HA := Lib.hid (show ∀ x, l[P]? = some x → Op.bytesLess x.key k = false by rw [hP]; exact pos_at _ _)
  have HP := Lib.hid hP
  clear hP
  go_enter Try.func39, Try.ntmps39
  go_upto_region 1 with fail
  have hO := Blk.lit w #[.int .i64 1, .string (str k), .string (str v), .bool d] 90
  have hW := Ext.alloc no w (.cells #[.int .i64 1, .string (str k), .string (str v), .bool d] 90)
  replace hX := hX.ext (by simp) hW (fun h => h)
  have hOl := hO.lt (by simp)
  generalize w.alloc (.cells #[.int .i64 1, .string (str k), .string (str v), .bool d] 90) = w1 at *
  obtain ⟨g, hg⟩ : ∃ g, g = w.heap.size := ⟨_, rfl⟩
  have hgw : w.heap.size ≤ g := by omega
  have hxg : x < g := by omega
  rw [← hg] at hO hOl ⊢
  clear hg
  have q0 := hO.cell 0 _ rfl
  have x1 := hX.cell 1 _ rfl
  go_quiet (fail)
  have hxq := Ext.drewN no w1 nq
  generalize w1.drewN nq = w2 at *
  replace hW := hW.comp hxq
  replace hO := hO.ext (by simp) hxq (fun h => h)
  replace hX := hX.ext (by simp) hxq (fun h => h)
  clear hxq
  clear q0 x1
  go_wp2_with fail
  go_loopw [5] (fun s5 wr => ∃ i : Nat, s5 = .int .i64 i ∧ i ≤ P ∧ Ext no w2 wr) (fun s5 _ => l.length - (intOf s5).toNat)
  case atStart => exact ⟨0, rfl, Nat.zero_le _, Ext.refl _ _⟩
  case round =>
    obtain ⟨i, rfl, hiP, hx⟩ := hrel
    have hx0 := hx
    replace hW := hW.comp hx
    replace hO := hO.ext (by simp) hx (fun h => h)
    replace hX := hX.ext (by simp) hx (fun h => h)
    clear hx
    have q1 := hO.cell 1 _ rfl
    by_cases hin : i < P
    · have hil : i < l.length := by omega
      have d1 : decide (i < l.length) = true := decT hil
      obtain ⟨r, hrm⟩ : ∃ r, l[i]? = some r := ⟨_, List.getElem?_eq_getElem hil⟩
      have d2 : Op.bytesLess (str r.key).toList (str k).toList = true := by rw [toList_str, toList_str]; exact HL.out i r hin hrm
      obtain ⟨b, off, hsa, _⟩ := rows_shape kPair (by omega) hr (by omega)
      have hrr := kvRd_no hr hW
      rw [hsa] at hrr
      have y0 : wr.cell? ⟨b, off + i * 2, none⟩ = some (.string (str r.key)) := rows_cell kPair hrr hrm 0 _ rfl
      have y1 : wr.cell? ⟨b, off + i * 2 + 1, none⟩ = some (.string (str r.val)) := rows_cell kPair hrr hrm 1 _ rfl
      clear hrr
      subst hsa
      clear hrm
      go_upto_region 3 with fail
      go_quiet (fail)
      have hx0 := hx0.comp (Ext.drewN no wr nq)
      generalize wr.drewN nq = wz at *
      go_wp2_with fail
      go_roundw
      case rel => exact ⟨i + 1, by go_num, by omega, hx0⟩
      case measure => simp [intOf]; omega
    · have hiP2 : i = P := by omega
      subst hiP2
      clear hx0 hin hiP
      by_cases hPn : i < l.length
      · obtain ⟨r, hrm⟩ : ∃ r, l[i]? = some r := ⟨_, List.getElem?_eq_getElem hPn⟩
        have d1 : decide (i < l.length) = true := decT hPn
        have d2 : Op.bytesLess (str r.key).toList (str k).toList = false := by rw [toList_str, toList_str]; exact HA.out r hrm
        obtain ⟨b, off, hsa, _⟩ := rows_shape kPair (by omega) hr (by omega)
        have hrr := kvRd_no hr hW
        rw [hsa] at hrr
        have y0 : wr.cell? ⟨b, off + i * 2, none⟩ = some (.string (str r.key)) := rows_cell kPair hrr hrm 0 _ rfl
        have y1 : wr.cell? ⟨b, off + i * 2 + 1, none⟩ = some (.string (str r.val)) := rows_cell kPair hrr hrm 1 _ rfl
        clear hrr
        subst hsa
        go_upto_region 3 with fail
        go_quiet (fail)
        have hxq := Ext.drewN no wr nq
        generalize wr.drewN nq = wz at *
        replace hW := hW.comp hxq
        replace hO := hO.ext (by simp) hxq (fun h => h)
        replace hX := hX.ext (by simp) hxq (fun h => h)
        clear hxq
        clear q1 d2 y0 y1
        have hA0 : Ext no w (wz.alloc (.cells #[] 65)) := hW.comp (Ext.alloc no _ _)
        have hf : Rd (wz.alloc (.cells #[] 65)) (some ⟨b, off, none⟩) (rows PairR.cells (l.take i)) := by have q := (kvRd_no hr hA0).take (i * 2); rwa [rows_take kPair] at q
        obtain ⟨B, hB⟩ : ∃ B, B = wz.heap.size := ⟨_, rfl⟩
        have hz : Own (wz.alloc (.cells #[] 65)) B (some ⟨wz.heap.size, 0, none⟩) 2 0 0 [] := by rw [hB]; exact Own.fresh wz _ _ _ _ _ _ _ _ (Nat.le_refl _) (by simp) (Nat.le_refl _) (Nat.zero_le _) (by simp) (by simp) (.inl (Nat.le_refl _))
        have hcA : ∀ w, (Instr.sliceAt 32 (.slice (some ⟨b, off, none⟩) l.length lc) none (some (.int .i64 (i : Int))) none).run Try.prog w = .ok (.slice (some ⟨b, off, none⟩) i lc) w := fun w => run_cut_h TPair w (some ⟨b, off, none⟩) _ lc .i64 i (by omega)
        have hB1 : g < B := by have := hO.lt (by simp); omega
        have hB2 : w.heap.size ≤ B := by omega
        have hB3 : B ≤ wz.heap.size := by omega
        have hB4 : wz.heap.size ≤ B := by omega
        clear hB
        go_wp2_with (at_builtin; refine wpList_append TPair rfl rfl rfl hz rfl hf (by rw [rows_length kPair, List.length_take]; congr 1; omega) (onePair _) ?c1 ?c2 (by simp; omega) ?_)
        case c1 => unfold maxLen; omega
        case c2 => omega
        intro a1 c1 w5 hp1
        try rw [Nat.zero_add]
        have ho1 := hp1.own
        rw [Nat.zero_add, List.nil_append] at ho1
        have hxA : Ext no wz w5 := (Ext.alloc no _ _).trans hp1.ext (fun k hk => by rintro ⟨ad, h, hb⟩; cases h; simp only at hb; omega)
        have hBs : B ≤ w5.heap.size := by have := hxA.size; omega
        clear hp1 hz hf hcA hB3 hB4 hA0
        replace hW := hW.comp hxA
        replace hO := hO.ext (by simp) hxA (fun h => h)
        replace hX := hX.ext (by simp) hxA (fun h => h)
        clear hxA
        have q3 := hO.cell 3 _ rfl
        cases d with
        | true =>
          have hF : Own w5 B a1 2 i c1 (rows PairR.cells (l.take i ++ Go.Esc.newRow (⟨1, k, v, true⟩ : ChangeR))) := by have e : Go.Esc.newRow (⟨1, k, v, true⟩ : ChangeR) = [] := rfl; rw [e, List.append_nil]; exact ho1
          clear ho1
          go_upto_region 8 with fail
          clear q3
          generalize w5 = w6 at *
          obtain ⟨a2, ha2⟩ : ∃ a2, a2 = a1 := ⟨_, rfl⟩
          obtain ⟨c2, hc2⟩ : ∃ c2, c2 = c1 := ⟨_, rfl⟩
          rw [← ha2, ← hc2] at hF ⊢
          clear ha2 hc2
          have hrr := kvRd_no hr hW
          have y0 : w6.cell? ⟨b, off + i * 2, none⟩ = some (.string (str r.key)) := rows_cell kPair hrr hrm 0 _ rfl
          clear hrr
          have q1 := hO.cell 1 _ rfl
          by_cases hk : r.key = k
          · have d3 : ((str r.key).toList == (str k).toList) = true := beqStrT hk
            have HR := Lib.hid (show E = (l.take i ++ Go.Esc.newRow (⟨1, k, v, true⟩ : ChangeR)) ++ l.drop (i + 1) by rw [HE.out]; unfold rowPut rowQ rowP; rw [← HP.out, hrm]; simp only; rw [if_pos hk])
            clear hk
            go_upto_region 8 with fail
            go_quiet (fail)
            have hxq := Ext.drewN no w6 nq
            generalize w6.drewN nq = w7 at *
            replace hW := hW.comp hxq
            replace hO := hO.ext (by simp) hxq (fun h => h)
            replace hX := hX.ext (by simp) hxq (fun h => h)
            replace hF := hF.ext hxq (fun _ _ h => h)
            replace hBs := Nat.le_trans hBs hxq.size
            clear hxq
            clear y0 q1 d3
            have q0 := hO.cell 0 _ rfl
            have x1 := hX.cell 1 _ rfl
            have xf := hX.fr 1
            have hcC : ∀ w, (Instr.sliceAt 32 (.slice (some ⟨b, off, none⟩) l.length lc) (some (.int .i64 ((i : Int) + 1))) none none).run Try.prog w = .ok (.slice (cutAt (some ⟨b, off, none⟩) lc (i + 1) 2) (l.length - (i + 1)) (lc - (i + 1))) w := fun w => run_cut_l TPair w (some ⟨b, off, none⟩) _ lc .i64 (i + 1) (by omega)
            have hf2 : Rd w7 (cutAt (some ⟨b, off, none⟩) lc (i + 1) 2) (rows PairR.cells (l.drop (i + 1))) := by have q := (kvRd_no hr hW).cutAt lc (i + 1) 2 (fun e => by rw [rows_length kPair]; exact Nat.mul_le_mul_right _ (by omega)); rwa [rows_drop kPair] at q
            go_upto_region 10 with fail
            refine wp_region_F [2] (looks [(2, fun z => z.cell? ⟨g, 0, none⟩ = some (.int .i64 1))]) (by kernel_rfl) ?_
            have hT0 : ∀ k, looks [(2, fun z => z.cell? ⟨g, 0, none⟩ = some (.int .i64 1))] k (w7.drew) := looks_all ⟨(hO.drew).cell 0 _ rfl, trivial⟩
            refine wpF_take 0 (v := ?_) rfl (by kernel_rfl) (by kernel_rfl) (by kernel_rfl) (fun _ _ _ h => h) hT0 (by rfl) ?_ ?_
            rotate_left
            · (intro wq; go_simp; try with_reducible rfl)
            simp only [Act.put, List.setIfInBounds_toArray, List.set_cons_zero, List.set_cons_succ]
            refine wpF_take 1 (v := ?_) rfl (by kernel_rfl) (by kernel_rfl) (by kernel_rfl) (fun _ _ _ h => h) hT0 (by rfl) ?_ ?_
            rotate_left
            · (intro wq; go_simp; try with_reducible rfl)
            simp only [Act.put, List.setIfInBounds_toArray, List.set_cons_zero, List.set_cons_succ]
            refine wpF_look 2 (v := .int .i64 1) rfl rfl (by kernel_rfl) (by kernel_rfl) (by kernel_rfl) (by kernel_rfl) (fun _ _ _ h => h) hT0 (by rfl) (fun w hS => by have hS : w.cell? ⟨g, 0, none⟩ = some (.int .i64 1) := hS; have q := hS; go_simp) ?_
            simp only [Act.put, List.setIfInBounds_toArray, List.set_cons_zero, List.set_cons_succ]
            refine wpF_take 3 (v := ?_) rfl (by kernel_rfl) (by kernel_rfl) (by kernel_rfl) (fun _ _ _ h => h) hT0 (by rfl) ?_ ?_
            rotate_left
            · (intro wq; go_simp; try with_reducible rfl)
            simp only [Act.put, List.setIfInBounds_toArray, List.set_cons_zero, List.set_cons_succ]
            refine wpF_take 4 (v := ?_) rfl (by kernel_rfl) (by kernel_rfl) (by kernel_rfl) (fun _ _ _ h => h) hT0 (by rfl) ?_ ?_
            rotate_left
            · (intro wq; go_simp; try with_reducible rfl)
            simp only [Act.put, List.setIfInBounds_toArray, List.set_cons_zero, List.set_cons_succ]
            refine wpF_take 5 (v := ?_) rfl (by kernel_rfl) (by kernel_rfl) (by kernel_rfl) (fun _ _ _ h => h) hT0 (by rfl) ?_ ?_
            rotate_left
            · (intro wq; go_simp; try with_reducible rfl)
            simp only [Act.put, List.setIfInBounds_toArray, List.set_cons_zero, List.set_cons_succ]
            refine wpF_take 6 (v := .slice (cutAt (some ⟨b, off, none⟩) lc (i + 1) 2) (l.length - (i + 1)) (lc - (i + 1))) rfl (by kernel_rfl) (by kernel_rfl) (by kernel_rfl) (fun _ _ _ h => h) hT0 (by rfl) (by intro wq; go_simp) ?_
            simp only [Act.put, List.setIfInBounds_toArray, List.set_cons_zero, List.set_cons_succ]
            refine wpF_take 8 (v := ?_) rfl (by kernel_rfl) (by kernel_rfl) (by kernel_rfl) (fun _ _ _ h => h) hT0 (by rfl) ?_ ?_
            rotate_left
            · (intro wq; go_simp; try with_reducible rfl)
            simp only [Act.put, List.setIfInBounds_toArray, List.set_cons_zero, List.set_cons_succ]
            refine wpF_take 9 (v := ?_) rfl (by kernel_rfl) (by kernel_rfl) (by kernel_rfl) (fun _ _ _ h => h) hT0 (by rfl) ?_ ?_
            rotate_left
            · (intro wq; go_simp; try with_reducible rfl)
            simp only [Act.put, List.setIfInBounds_toArray, List.set_cons_zero, List.set_cons_succ]
            refine wpF_exec 7 rfl (by kernel_rfl) (by rfl) ?_
            intro K hK
            refine op_append (m := l.length - (i + 1)) TPair rfl rfl hF.drew rfl (hf2.ext (Ext.drew no w7) (fun _ _ h => h)) (by rw [rows_length kPair, List.length_drop]) (onePair _) (by unfold maxLen; omega) (by omega) (by show B ≤ w7.heap.size; omega) ?_
            intro a4 c4 w8 hp4
            have xx := (Ext.drew (blk a2) w7).comp hp4.ext
            have nx : ¬ blk a2 x := by rintro ⟨ad, h, hb⟩; have := (hF.base ad h).1; omega
            have hX8 := hX.ext (by simp) xx nx
            have hW8 := hW.trans xx (fun k hk => by rintro ⟨ad, h, hb⟩; have := (hF.base ad h).1; omega)
            have ho8 := hp4.own
            have hO8 := hO.ext (by simp) xx (by rintro ⟨ad, h, hb⟩; have := (hF.base ad h).1; omega)
            obtain ⟨nn, hnn⟩ : ∃ nn, nn = i + (l.length - (i + 1)) := ⟨_, rfl⟩
            rw [← hnn] at ho8 ⊢
            have Hnn := Lib.hid hnn
            clear hnn hp4 xx nx
            have hT1 : ∀ k, looks [(2, fun z => z.cell? ⟨g, 0, none⟩ = some (.int .i64 1))] k (w8) := looks_all ⟨hO8.cell 0 _ rfl, trivial⟩
            refine hK _ _ (looks [(2, fun z => z.cell? ⟨g, 0, none⟩ = some (.int .i64 1))]) ⟨.inr (.inr (fun x h => h)), trivial⟩ hT1 ?_
            clear hK K
            try simp only [Act.put, List.setIfInBounds_toArray, List.set_cons_zero, List.set_cons_succ]
            refine wpF_take 10 (v := .pointer (some ⟨x, 1, none⟩)) rfl (by kernel_rfl) (by kernel_rfl) (by kernel_rfl) (fun _ _ _ h => h) hT1 (by rfl) (by intro wq; go_simp) ?_
            simp only [Act.put, List.setIfInBounds_toArray, List.set_cons_zero, List.set_cons_succ]
            refine wpF_exec 11 rfl (by kernel_rfl) (by rfl) ?_
            intro K hK
            have y1 := hX8.cell 1 _ rfl
            have yf := hX8.fr 1
            go_simp
            have hX9 := hX8.set 1 (.slice a4 nn c4) (by simp)
            have hx9 : Ext (just x) w8 (w8.setCell ⟨x, 1, none⟩ (.slice a4 nn c4)) := Ext.setCell _ _ _ rfl
            generalize w8.setCell ⟨x, 1, none⟩ (.slice a4 nn c4) = w9 at *
            have hT2 : ∀ k, looks [(2, fun z => True)] k (w9) := looks_all ⟨trivial, trivial⟩
            refine hK _ _ (looks [(2, fun z => True)]) ⟨.inr (.inl (by kernel_rfl)), trivial⟩ hT2 ?_
            clear hK K
            try simp only [Act.put, List.setIfInBounds_toArray, List.set_cons_zero, List.set_cons_succ]
            refine wpF_done (by kernel_rfl) ?_ _
            have hlen : nn = E.length := by have hnr : (Go.Esc.newRow (⟨1, k, v, true⟩ : ChangeR)).length = 0 := rfl; rw [Hnn.out, HR.out, List.length_append, List.length_append, List.length_take, List.length_drop, hnr]; omega
            have ho9 : Own w9 w.heap.size a4 2 E.length c4 (rows PairR.cells E) := by
              have q := (ho8.ext hx9 (fun ad ha e => by have e : ad.block = x := e; have := (ho8.base ad ha).1; omega)).mono hB2
              rw [← rows_append, ← HR.out, hlen] at q
              exact q
            rw [hlen] at hX9
            have hWX : Ext (just x) w w9 := (hW8.mono (fun _ _ h => h.elim)).comp hx9
            clear hlen hX8 hW8 ho8 hx9
            go_wp2_with fail
            go_end0
            exact ⟨rfl, a4, c4, hX9, ho9, hWX⟩
          · have d3 : ((str r.key).toList == (str k).toList) = false := beqStrF hk
            have HR := Lib.hid (show E = (l.take i ++ Go.Esc.newRow (⟨1, k, v, true⟩ : ChangeR)) ++ l.drop (i) by rw [HE.out]; unfold rowPut rowQ rowP; rw [← HP.out, hrm]; simp only; rw [if_neg hk])
            clear hk
            go_upto_region 8 with fail
            go_quiet (fail)
            have hxq := Ext.drewN no w6 nq
            generalize w6.drewN nq = w7 at *
            replace hW := hW.comp hxq
            replace hO := hO.ext (by simp) hxq (fun h => h)
            replace hX := hX.ext (by simp) hxq (fun h => h)
            replace hF := hF.ext hxq (fun _ _ h => h)
            replace hBs := Nat.le_trans hBs hxq.size
            clear hxq
            clear y0 q1 d3
            have q0 := hO.cell 0 _ rfl
            have x1 := hX.cell 1 _ rfl
            have xf := hX.fr 1
            have hcC : ∀ w, (Instr.sliceAt 32 (.slice (some ⟨b, off, none⟩) l.length lc) (some (.int .i64 (i : Int))) none none).run Try.prog w = .ok (.slice (cutAt (some ⟨b, off, none⟩) lc (i) 2) (l.length - (i)) (lc - (i))) w := fun w => run_cut_l TPair w (some ⟨b, off, none⟩) _ lc .i64 (i) (by omega)
            have hf2 : Rd w7 (cutAt (some ⟨b, off, none⟩) lc (i) 2) (rows PairR.cells (l.drop (i))) := by have q := (kvRd_no hr hW).cutAt lc (i) 2 (fun e => by rw [rows_length kPair]; exact Nat.mul_le_mul_right _ (by omega)); rwa [rows_drop kPair] at q
            go_upto_region 10 with fail
            refine wp_region_F [2] (looks [(2, fun z => z.cell? ⟨g, 0, none⟩ = some (.int .i64 1))]) (by kernel_rfl) ?_
            have hT0 : ∀ k, looks [(2, fun z => z.cell? ⟨g, 0, none⟩ = some (.int .i64 1))] k (w7.drew) := looks_all ⟨(hO.drew).cell 0 _ rfl, trivial⟩
            refine wpF_take 0 (v := ?_) rfl (by kernel_rfl) (by kernel_rfl) (by kernel_rfl) (fun _ _ _ h => h) hT0 (by rfl) ?_ ?_
            rotate_left
            · (intro wq; go_simp; try with_reducible rfl)
            simp only [Act.put, List.setIfInBounds_toArray, List.set_cons_zero, List.set_cons_succ]
            refine wpF_take 1 (v := ?_) rfl (by kernel_rfl) (by kernel_rfl) (by kernel_rfl) (fun _ _ _ h => h) hT0 (by rfl) ?_ ?_
            rotate_left
            · (intro wq; go_simp; try with_reducible rfl)
            simp only [Act.put, List.setIfInBounds_toArray, List.set_cons_zero, List.set_cons_succ]
            refine wpF_look 2 (v := .int .i64 1) rfl rfl (by kernel_rfl) (by kernel_rfl) (by kernel_rfl) (by kernel_rfl) (fun _ _ _ h => h) hT0 (by rfl) (fun w hS => by have hS : w.cell? ⟨g, 0, none⟩ = some (.int .i64 1) := hS; have q := hS; go_simp) ?_
            simp only [Act.put, List.setIfInBounds_toArray, List.set_cons_zero, List.set_cons_succ]
            refine wpF_take 3 (v := ?_) rfl (by kernel_rfl) (by kernel_rfl) (by kernel_rfl) (fun _ _ _ h => h) hT0 (by rfl) ?_ ?_
            rotate_left
            · (intro wq; go_simp; try with_reducible rfl)
            simp only [Act.put, List.setIfInBounds_toArray, List.set_cons_zero, List.set_cons_succ]
            refine wpF_take 4 (v := ?_) rfl (by kernel_rfl) (by kernel_rfl) (by kernel_rfl) (fun _ _ _ h => h) hT0 (by rfl) ?_ ?_
            rotate_left
            · (intro wq; go_simp; try with_reducible rfl)
            simp only [Act.put, List.setIfInBounds_toArray, List.set_cons_zero, List.set_cons_succ]
            refine wpF_take 5 (v := ?_) rfl (by kernel_rfl) (by kernel_rfl) (by kernel_rfl) (fun _ _ _ h => h) hT0 (by rfl) ?_ ?_
            rotate_left
            · (intro wq; go_simp; try with_reducible rfl)
            simp only [Act.put, List.setIfInBounds_toArray, List.set_cons_zero, List.set_cons_succ]
            refine wpF_take 6 (v := .slice (cutAt (some ⟨b, off, none⟩) lc (i) 2) (l.length - (i)) (lc - (i))) rfl (by kernel_rfl) (by kernel_rfl) (by kernel_rfl) (fun _ _ _ h => h) hT0 (by rfl) (by intro wq; go_simp) ?_
            simp only [Act.put, List.setIfInBounds_toArray, List.set_cons_zero, List.set_cons_succ]
            refine wpF_take 8 (v := ?_) rfl (by kernel_rfl) (by kernel_rfl) (by kernel_rfl) (fun _ _ _ h => h) hT0 (by rfl) ?_ ?_
            rotate_left
            · (intro wq; go_simp; try with_reducible rfl)
            simp only [Act.put, List.setIfInBounds_toArray, List.set_cons_zero, List.set_cons_succ]
            refine wpF_take 9 (v := ?_) rfl (by kernel_rfl) (by kernel_rfl) (by kernel_rfl) (fun _ _ _ h => h) hT0 (by rfl) ?_ ?_
            rotate_left
            · (intro wq; go_simp; try with_reducible rfl)
            simp only [Act.put, List.setIfInBounds_toArray, List.set_cons_zero, List.set_cons_succ]
            refine wpF_exec 7 rfl (by kernel_rfl) (by rfl) ?_
            intro K hK
            refine op_append (m := l.length - (i)) TPair rfl rfl hF.drew rfl (hf2.ext (Ext.drew no w7) (fun _ _ h => h)) (by rw [rows_length kPair, List.length_drop]) (onePair _) (by unfold maxLen; omega) (by omega) (by show B ≤ w7.heap.size; omega) ?_
            intro a4 c4 w8 hp4
            have xx := (Ext.drew (blk a2) w7).comp hp4.ext
            have nx : ¬ blk a2 x := by rintro ⟨ad, h, hb⟩; have := (hF.base ad h).1; omega
            have hX8 := hX.ext (by simp) xx nx
            have hW8 := hW.trans xx (fun k hk => by rintro ⟨ad, h, hb⟩; have := (hF.base ad h).1; omega)
            have ho8 := hp4.own
            have hO8 := hO.ext (by simp) xx (by rintro ⟨ad, h, hb⟩; have := (hF.base ad h).1; omega)
            obtain ⟨nn, hnn⟩ : ∃ nn, nn = i + (l.length - (i)) := ⟨_, rfl⟩
            rw [← hnn] at ho8 ⊢
            have Hnn := Lib.hid hnn
            clear hnn hp4 xx nx
            have hT1 : ∀ k, looks [(2, fun z => z.cell? ⟨g, 0, none⟩ = some (.int .i64 1))] k (w8) := looks_all ⟨hO8.cell 0 _ rfl, trivial⟩
            refine hK _ _ (looks [(2, fun z => z.cell? ⟨g, 0, none⟩ = some (.int .i64 1))]) ⟨.inr (.inr (fun x h => h)), trivial⟩ hT1 ?_
            clear hK K
            try simp only [Act.put, List.setIfInBounds_toArray, List.set_cons_zero, List.set_cons_succ]
            refine wpF_take 10 (v := .pointer (some ⟨x, 1, none⟩)) rfl (by kernel_rfl) (by kernel_rfl) (by kernel_rfl) (fun _ _ _ h => h) hT1 (by rfl) (by intro wq; go_simp) ?_
            simp only [Act.put, List.setIfInBounds_toArray, List.set_cons_zero, List.set_cons_succ]
            refine wpF_exec 11 rfl (by kernel_rfl) (by rfl) ?_
            intro K hK
            have y1 := hX8.cell 1 _ rfl
            have yf := hX8.fr 1
            go_simp
            have hX9 := hX8.set 1 (.slice a4 nn c4) (by simp)
            have hx9 : Ext (just x) w8 (w8.setCell ⟨x, 1, none⟩ (.slice a4 nn c4)) := Ext.setCell _ _ _ rfl
            generalize w8.setCell ⟨x, 1, none⟩ (.slice a4 nn c4) = w9 at *
            have hT2 : ∀ k, looks [(2, fun z => True)] k (w9) := looks_all ⟨trivial, trivial⟩
            refine hK _ _ (looks [(2, fun z => True)]) ⟨.inr (.inl (by kernel_rfl)), trivial⟩ hT2 ?_
            clear hK K
            try simp only [Act.put, List.setIfInBounds_toArray, List.set_cons_zero, List.set_cons_succ]
            refine wpF_done (by kernel_rfl) ?_ _
            have hlen : nn = E.length := by have hnr : (Go.Esc.newRow (⟨1, k, v, true⟩ : ChangeR)).length = 0 := rfl; rw [Hnn.out, HR.out, List.length_append, List.length_append, List.length_take, List.length_drop, hnr]; omega
            have ho9 : Own w9 w.heap.size a4 2 E.length c4 (rows PairR.cells E) := by
              have q := (ho8.ext hx9 (fun ad ha e => by have e : ad.block = x := e; have := (ho8.base ad ha).1; omega)).mono hB2
              rw [← rows_append, ← HR.out, hlen] at q
              exact q
            rw [hlen] at hX9
            have hWX : Ext (just x) w w9 := (hW8.mono (fun _ _ h => h.elim)).comp hx9
            clear hlen hX8 hW8 ho8 hx9
            go_wp2_with fail
            go_end0
            exact ⟨rfl, a4, c4, hX9, ho9, hWX⟩
        | false =>
          have z1 := hO.cell 1 _ rfl
          have z2 := hO.cell 2 _ rfl
          have hX1 : Rd (w5.alloc (.cells #[.string (str k), .string (str v)] 65)) (some ⟨w5.heap.size, 0, none⟩) (PairR.cells ⟨k, v⟩) := Rd.lit w5 #[.string (str k), .string (str v)] _ _
          go_wp2_with (at_builtin; refine wpList_append TPair rfl rfl rfl (ho1.alloc _) rfl hX1 rfl (one1Pair ⟨k, v⟩) ?c1 ?c2 ?c3 ?_)
          case c1 => unfold maxLen; omega
          case c2 => omega
          case c3 => first | omega | (simp; omega)
          intro a2 c2 w6 hp2
          have hF : Own w6 B a2 2 (i + 1) c2 (rows PairR.cells (l.take i ++ Go.Esc.newRow (⟨1, k, v, false⟩ : ChangeR))) := by have q := hp2.own; rw [rows_append]; exact q
          have xx := (Ext.alloc (blk a1) w5 (.cells #[.string (str k), .string (str v)] 65)).comp hp2.ext
          have nx : ∀ q, q < B → ¬ blk a1 q := fun q hq => by rintro ⟨ad, h, hb⟩; have := (ho1.base ad h).1; omega
          replace hX := hX.ext (by simp) xx (nx _ (by omega))
          replace hO := hO.ext (by simp) xx (nx _ (by omega))
          replace hW := hW.trans xx (fun k hk => nx k (by omega))
          replace hBs := Nat.le_trans hBs xx.size
          clear hp2 hX1 xx nx ho1 z1 z2 q3
          have hrr := kvRd_no hr hW
          have y0 : w6.cell? ⟨b, off + i * 2, none⟩ = some (.string (str r.key)) := rows_cell kPair hrr hrm 0 _ rfl
          clear hrr
          have q1 := hO.cell 1 _ rfl
          by_cases hk : r.key = k
          · have d3 : ((str r.key).toList == (str k).toList) = true := beqStrT hk
            have HR := Lib.hid (show E = (l.take i ++ Go.Esc.newRow (⟨1, k, v, false⟩ : ChangeR)) ++ l.drop (i + 1) by rw [HE.out]; unfold rowPut rowQ rowP; rw [← HP.out, hrm]; simp only; rw [if_pos hk])
            clear hk
            go_upto_region 8 with fail
            go_quiet (fail)
            have hxq := Ext.drewN no w6 nq
            generalize w6.drewN nq = w7 at *
            replace hW := hW.comp hxq
            replace hO := hO.ext (by simp) hxq (fun h => h)
            replace hX := hX.ext (by simp) hxq (fun h => h)
            replace hF := hF.ext hxq (fun _ _ h => h)
            replace hBs := Nat.le_trans hBs hxq.size
            clear hxq
            clear y0 q1 d3
            have q0 := hO.cell 0 _ rfl
            have x1 := hX.cell 1 _ rfl
            have xf := hX.fr 1
            have hcC : ∀ w, (Instr.sliceAt 32 (.slice (some ⟨b, off, none⟩) l.length lc) (some (.int .i64 ((i : Int) + 1))) none none).run Try.prog w = .ok (.slice (cutAt (some ⟨b, off, none⟩) lc (i + 1) 2) (l.length - (i + 1)) (lc - (i + 1))) w := fun w => run_cut_l TPair w (some ⟨b, off, none⟩) _ lc .i64 (i + 1) (by omega)
            have hf2 : Rd w7 (cutAt (some ⟨b, off, none⟩) lc (i + 1) 2) (rows PairR.cells (l.drop (i + 1))) := by have q := (kvRd_no hr hW).cutAt lc (i + 1) 2 (fun e => by rw [rows_length kPair]; exact Nat.mul_le_mul_right _ (by omega)); rwa [rows_drop kPair] at q
            go_upto_region 10 with fail
            refine wp_region_F [2] (looks [(2, fun z => z.cell? ⟨g, 0, none⟩ = some (.int .i64 1))]) (by kernel_rfl) ?_
            have hT0 : ∀ k, looks [(2, fun z => z.cell? ⟨g, 0, none⟩ = some (.int .i64 1))] k (w7.drew) := looks_all ⟨(hO.drew).cell 0 _ rfl, trivial⟩
            refine wpF_take 0 (v := ?_) rfl (by kernel_rfl) (by kernel_rfl) (by kernel_rfl) (fun _ _ _ h => h) hT0 (by rfl) ?_ ?_
            rotate_left
            · (intro wq; go_simp; try with_reducible rfl)
            simp only [Act.put, List.setIfInBounds_toArray, List.set_cons_zero, List.set_cons_succ]
            refine wpF_take 1 (v := ?_) rfl (by kernel_rfl) (by kernel_rfl) (by kernel_rfl) (fun _ _ _ h => h) hT0 (by rfl) ?_ ?_
            rotate_left
            · (intro wq; go_simp; try with_reducible rfl)
            simp only [Act.put, List.setIfInBounds_toArray, List.set_cons_zero, List.set_cons_succ]
            refine wpF_look 2 (v := .int .i64 1) rfl rfl (by kernel_rfl) (by kernel_rfl) (by kernel_rfl) (by kernel_rfl) (fun _ _ _ h => h) hT0 (by rfl) (fun w hS => by have hS : w.cell? ⟨g, 0, none⟩ = some (.int .i64 1) := hS; have q := hS; go_simp) ?_
            simp only [Act.put, List.setIfInBounds_toArray, List.set_cons_zero, List.set_cons_succ]
            refine wpF_take 3 (v := ?_) rfl (by kernel_rfl) (by kernel_rfl) (by kernel_rfl) (fun _ _ _ h => h) hT0 (by rfl) ?_ ?_
            rotate_left
            · (intro wq; go_simp; try with_reducible rfl)
            simp only [Act.put, List.setIfInBounds_toArray, List.set_cons_zero, List.set_cons_succ]
            refine wpF_take 4 (v := ?_) rfl (by kernel_rfl) (by kernel_rfl) (by kernel_rfl) (fun _ _ _ h => h) hT0 (by rfl) ?_ ?_
            rotate_left
            · (intro wq; go_simp; try with_reducible rfl)
            simp only [Act.put, List.setIfInBounds_toArray, List.set_cons_zero, List.set_cons_succ]
            refine wpF_take 5 (v := ?_) rfl (by kernel_rfl) (by kernel_rfl) (by kernel_rfl) (fun _ _ _ h => h) hT0 (by rfl) ?_ ?_
            rotate_left
            · (intro wq; go_simp; try with_reducible rfl)
            simp only [Act.put, List.setIfInBounds_toArray, List.set_cons_zero, List.set_cons_succ]
            refine wpF_take 6 (v := .slice (cutAt (some ⟨b, off, none⟩) lc (i + 1) 2) (l.length - (i + 1)) (lc - (i + 1))) rfl (by kernel_rfl) (by kernel_rfl) (by kernel_rfl) (fun _ _ _ h => h) hT0 (by rfl) (by intro wq; go_simp) ?_
            simp only [Act.put, List.setIfInBounds_toArray, List.set_cons_zero, List.set_cons_succ]
            refine wpF_take 8 (v := ?_) rfl (by kernel_rfl) (by kernel_rfl) (by kernel_rfl) (fun _ _ _ h => h) hT0 (by rfl) ?_ ?_
            rotate_left
            · (intro wq; go_simp; try with_reducible rfl)
            simp only [Act.put, List.setIfInBounds_toArray, List.set_cons_zero, List.set_cons_succ]
            refine wpF_take 9 (v := ?_) rfl (by kernel_rfl) (by kernel_rfl) (by kernel_rfl) (fun _ _ _ h => h) hT0 (by rfl) ?_ ?_
            rotate_left
            · (intro wq; go_simp; try with_reducible rfl)
            simp only [Act.put, List.setIfInBounds_toArray, List.set_cons_zero, List.set_cons_succ]
            refine wpF_exec 7 rfl (by kernel_rfl) (by rfl) ?_
            intro K hK
            refine op_append (m := l.length - (i + 1)) TPair rfl rfl hF.drew rfl (hf2.ext (Ext.drew no w7) (fun _ _ h => h)) (by rw [rows_length kPair, List.length_drop]) (onePair _) (by unfold maxLen; omega) (by omega) (by show B ≤ w7.heap.size; omega) ?_
            intro a4 c4 w8 hp4
            have xx := (Ext.drew (blk a2) w7).comp hp4.ext
            have nx : ¬ blk a2 x := by rintro ⟨ad, h, hb⟩; have := (hF.base ad h).1; omega
            have hX8 := hX.ext (by simp) xx nx
            have hW8 := hW.trans xx (fun k hk => by rintro ⟨ad, h, hb⟩; have := (hF.base ad h).1; omega)
            have ho8 := hp4.own
            have hO8 := hO.ext (by simp) xx (by rintro ⟨ad, h, hb⟩; have := (hF.base ad h).1; omega)
            obtain ⟨nn, hnn⟩ : ∃ nn, nn = (i + 1) + (l.length - (i + 1)) := ⟨_, rfl⟩
            rw [← hnn] at ho8 ⊢
            have Hnn := Lib.hid hnn
            clear hnn hp4 xx nx
            have hT1 : ∀ k, looks [(2, fun z => z.cell? ⟨g, 0, none⟩ = some (.int .i64 1))] k (w8) := looks_all ⟨hO8.cell 0 _ rfl, trivial⟩
            refine hK _ _ (looks [(2, fun z => z.cell? ⟨g, 0, none⟩ = some (.int .i64 1))]) ⟨.inr (.inr (fun x h => h)), trivial⟩ hT1 ?_
            clear hK K
            try simp only [Act.put, List.setIfInBounds_toArray, List.set_cons_zero, List.set_cons_succ]
            refine wpF_take 10 (v := .pointer (some ⟨x, 1, none⟩)) rfl (by kernel_rfl) (by kernel_rfl) (by kernel_rfl) (fun _ _ _ h => h) hT1 (by rfl) (by intro wq; go_simp) ?_
            simp only [Act.put, List.setIfInBounds_toArray, List.set_cons_zero, List.set_cons_succ]
            refine wpF_exec 11 rfl (by kernel_rfl) (by rfl) ?_
            intro K hK
            have y1 := hX8.cell 1 _ rfl
            have yf := hX8.fr 1
            go_simp
            have hX9 := hX8.set 1 (.slice a4 nn c4) (by simp)
            have hx9 : Ext (just x) w8 (w8.setCell ⟨x, 1, none⟩ (.slice a4 nn c4)) := Ext.setCell _ _ _ rfl
            generalize w8.setCell ⟨x, 1, none⟩ (.slice a4 nn c4) = w9 at *
            have hT2 : ∀ k, looks [(2, fun z => True)] k (w9) := looks_all ⟨trivial, trivial⟩
            refine hK _ _ (looks [(2, fun z => True)]) ⟨.inr (.inl (by kernel_rfl)), trivial⟩ hT2 ?_
            clear hK K
            try simp only [Act.put, List.setIfInBounds_toArray, List.set_cons_zero, List.set_cons_succ]
            refine wpF_done (by kernel_rfl) ?_ _
            have hlen : nn = E.length := by have hnr : (Go.Esc.newRow (⟨1, k, v, false⟩ : ChangeR)).length = 1 := rfl; rw [Hnn.out, HR.out, List.length_append, List.length_append, List.length_take, List.length_drop, hnr]; omega
            have ho9 : Own w9 w.heap.size a4 2 E.length c4 (rows PairR.cells E) := by
              have q := (ho8.ext hx9 (fun ad ha e => by have e : ad.block = x := e; have := (ho8.base ad ha).1; omega)).mono hB2
              rw [← rows_append, ← HR.out, hlen] at q
              exact q
            rw [hlen] at hX9
            have hWX : Ext (just x) w w9 := (hW8.mono (fun _ _ h => h.elim)).comp hx9
            clear hlen hX8 hW8 ho8 hx9
            go_wp2_with fail
            go_end0
            exact ⟨rfl, a4, c4, hX9, ho9, hWX⟩
          · have d3 : ((str r.key).toList == (str k).toList) = false := beqStrF hk
            have HR := Lib.hid (show E = (l.take i ++ Go.Esc.newRow (⟨1, k, v, false⟩ : ChangeR)) ++ l.drop (i) by rw [HE.out]; unfold rowPut rowQ rowP; rw [← HP.out, hrm]; simp only; rw [if_neg hk])
            clear hk
            go_upto_region 8 with fail
            go_quiet (fail)
            have hxq := Ext.drewN no w6 nq
            generalize w6.drewN nq = w7 at *
            replace hW := hW.comp hxq
            replace hO := hO.ext (by simp) hxq (fun h => h)
            replace hX := hX.ext (by simp) hxq (fun h => h)
            replace hF := hF.ext hxq (fun _ _ h => h)
            replace hBs := Nat.le_trans hBs hxq.size
            clear hxq
            clear y0 q1 d3
            have q0 := hO.cell 0 _ rfl
            have x1 := hX.cell 1 _ rfl
            have xf := hX.fr 1
            have hcC : ∀ w, (Instr.sliceAt 32 (.slice (some ⟨b, off, none⟩) l.length lc) (some (.int .i64 (i : Int))) none none).run Try.prog w = .ok (.slice (cutAt (some ⟨b, off, none⟩) lc (i) 2) (l.length - (i)) (lc - (i))) w := fun w => run_cut_l TPair w (some ⟨b, off, none⟩) _ lc .i64 (i) (by omega)
            have hf2 : Rd w7 (cutAt (some ⟨b, off, none⟩) lc (i) 2) (rows PairR.cells (l.drop (i))) := by have q := (kvRd_no hr hW).cutAt lc (i) 2 (fun e => by rw [rows_length kPair]; exact Nat.mul_le_mul_right _ (by omega)); rwa [rows_drop kPair] at q
            go_upto_region 10 with fail
            refine wp_region_F [2] (looks [(2, fun z => z.cell? ⟨g, 0, none⟩ = some (.int .i64 1))]) (by kernel_rfl) ?_
            have hT0 : ∀ k, looks [(2, fun z => z.cell? ⟨g, 0, none⟩ = some (.int .i64 1))] k (w7.drew) := looks_all ⟨(hO.drew).cell 0 _ rfl, trivial⟩
            refine wpF_take 0 (v := ?_) rfl (by kernel_rfl) (by kernel_rfl) (by kernel_rfl) (fun _ _ _ h => h) hT0 (by rfl) ?_ ?_
            rotate_left
            · (intro wq; go_simp; try with_reducible rfl)
            simp only [Act.put, List.setIfInBounds_toArray, List.set_cons_zero, List.set_cons_succ]
            refine wpF_take 1 (v := ?_) rfl (by kernel_rfl) (by kernel_rfl) (by kernel_rfl) (fun _ _ _ h => h) hT0 (by rfl) ?_ ?_
            rotate_left
            · (intro wq; go_simp; try with_reducible rfl)
            simp only [Act.put, List.setIfInBounds_toArray, List.set_cons_zero, List.set_cons_succ]
            refine wpF_look 2 (v := .int .i64 1) rfl rfl (by kernel_rfl) (by kernel_rfl) (by kernel_rfl) (by kernel_rfl) (fun _ _ _ h => h) hT0 (by rfl) (fun w hS => by have hS : w.cell? ⟨g, 0, none⟩ = some (.int .i64 1) := hS; have q := hS; go_simp) ?_
            simp only [Act.put, List.setIfInBounds_toArray, List.set_cons_zero, List.set_cons_succ]
            refine wpF_take 3 (v := ?_) rfl (by kernel_rfl) (by kernel_rfl) (by kernel_rfl) (fun _ _ _ h => h) hT0 (by rfl) ?_ ?_
            rotate_left
            · (intro wq; go_simp; try with_reducible rfl)
            simp only [Act.put, List.setIfInBounds_toArray, List.set_cons_zero, List.set_cons_succ]
            refine wpF_take 4 (v := ?_) rfl (by kernel_rfl) (by kernel_rfl) (by kernel_rfl) (fun _ _ _ h => h) hT0 (by rfl) ?_ ?_
            rotate_left
            · (intro wq; go_simp; try with_reducible rfl)
            simp only [Act.put, List.setIfInBounds_toArray, List.set_cons_zero, List.set_cons_succ]
            refine wpF_take 5 (v := ?_) rfl (by kernel_rfl) (by kernel_rfl) (by kernel_rfl) (fun _ _ _ h => h) hT0 (by rfl) ?_ ?_
            rotate_left
            · (intro wq; go_simp; try with_reducible rfl)
            simp only [Act.put, List.setIfInBounds_toArray, List.set_cons_zero, List.set_cons_succ]
            refine wpF_take 6 (v := .slice (cutAt (some ⟨b, off, none⟩) lc (i) 2) (l.length - (i)) (lc - (i))) rfl (by kernel_rfl) (by kernel_rfl) (by kernel_rfl) (fun _ _ _ h => h) hT0 (by rfl) (by intro wq; go_simp) ?_
            simp only [Act.put, List.setIfInBounds_toArray, List.set_cons_zero, List.set_cons_succ]
            refine wpF_take 8 (v := ?_) rfl (by kernel_rfl) (by kernel_rfl) (by kernel_rfl) (fun _ _ _ h => h) hT0 (by rfl) ?_ ?_
            rotate_left
            · (intro wq; go_simp; try with_reducible rfl)
            simp only [Act.put, List.setIfInBounds_toArray, List.set_cons_zero, List.set_cons_succ]
            refine wpF_take 9 (v := ?_) rfl (by kernel_rfl) (by kernel_rfl) (by kernel_rfl) (fun _ _ _ h => h) hT0 (by rfl) ?_ ?_
            rotate_left
            · (intro wq; go_simp; try with_reducible rfl)
            simp only [Act.put, List.setIfInBounds_toArray, List.set_cons_zero, List.set_cons_succ]
            refine wpF_exec 7 rfl (by kernel_rfl) (by rfl) ?_
            intro K hK
            refine op_append (m := l.length - (i)) TPair rfl rfl hF.drew rfl (hf2.ext (Ext.drew no w7) (fun _ _ h => h)) (by rw [rows_length kPair, List.length_drop]) (onePair _) (by unfold maxLen; omega) (by omega) (by show B ≤ w7.heap.size; omega) ?_
            intro a4 c4 w8 hp4
            have xx := (Ext.drew (blk a2) w7).comp hp4.ext
            have nx : ¬ blk a2 x := by rintro ⟨ad, h, hb⟩; have := (hF.base ad h).1; omega
            have hX8 := hX.ext (by simp) xx nx
            have hW8 := hW.trans xx (fun k hk => by rintro ⟨ad, h, hb⟩; have := (hF.base ad h).1; omega)
            have ho8 := hp4.own
            have hO8 := hO.ext (by simp) xx (by rintro ⟨ad, h, hb⟩; have := (hF.base ad h).1; omega)
            obtain ⟨nn, hnn⟩ : ∃ nn, nn = (i + 1) + (l.length - (i)) := ⟨_, rfl⟩
            rw [← hnn] at ho8 ⊢
            have Hnn := Lib.hid hnn
            clear hnn hp4 xx nx
            have hT1 : ∀ k, looks [(2, fun z => z.cell? ⟨g, 0, none⟩ = some (.int .i64 1))] k (w8) := looks_all ⟨hO8.cell 0 _ rfl, trivial⟩
            refine hK _ _ (looks [(2, fun z => z.cell? ⟨g, 0, none⟩ = some (.int .i64 1))]) ⟨.inr (.inr (fun x h => h)), trivial⟩ hT1 ?_
            clear hK K
            try simp only [Act.put, List.setIfInBounds_toArray, List.set_cons_zero, List.set_cons_succ]
            refine wpF_take 10 (v := .pointer (some ⟨x, 1, none⟩)) rfl (by kernel_rfl) (by kernel_rfl) (by kernel_rfl) (fun _ _ _ h => h) hT1 (by rfl) (by intro wq; go_simp) ?_
            simp only [Act.put, List.setIfInBounds_toArray, List.set_cons_zero, List.set_cons_succ]
            refine wpF_exec 11 rfl (by kernel_rfl) (by rfl) ?_
            intro K hK
            have y1 := hX8.cell 1 _ rfl
            have yf := hX8.fr 1
            go_simp
            have hX9 := hX8.set 1 (.slice a4 nn c4) (by simp)
            have hx9 : Ext (just x) w8 (w8.setCell ⟨x, 1, none⟩ (.slice a4 nn c4)) := Ext.setCell _ _ _ rfl
            generalize w8.setCell ⟨x, 1, none⟩ (.slice a4 nn c4) = w9 at *
            have hT2 : ∀ k, looks [(2, fun z => True)] k (w9) := looks_all ⟨trivial, trivial⟩
            refine hK _ _ (looks [(2, fun z => True)]) ⟨.inr (.inl (by kernel_rfl)), trivial⟩ hT2 ?_
            clear hK K
            try simp only [Act.put, List.setIfInBounds_toArray, List.set_cons_zero, List.set_cons_succ]
            refine wpF_done (by kernel_rfl) ?_ _
            have hlen : nn = E.length := by have hnr : (Go.Esc.newRow (⟨1, k, v, false⟩ : ChangeR)).length = 1 := rfl; rw [Hnn.out, HR.out, List.length_append, List.length_append, List.length_take, List.length_drop, hnr]; omega
            have ho9 : Own w9 w.heap.size a4 2 E.length c4 (rows PairR.cells E) := by
              have q := (ho8.ext hx9 (fun ad ha e => by have e : ad.block = x := e; have := (ho8.base ad ha).1; omega)).mono hB2
              rw [← rows_append, ← HR.out, hlen] at q
              exact q
            rw [hlen] at hX9
            have hWX : Ext (just x) w w9 := (hW8.mono (fun _ _ h => h.elim)).comp hx9
            clear hlen hX8 hW8 ho8 hx9
            go_wp2_with fail
            go_end0
            exact ⟨rfl, a4, c4, hX9, ho9, hWX⟩
      · have d1 : decide (i < l.length) = false := decF hPn
        go_upto_region 3 with fail
        go_quiet (fail)
        have hxq := Ext.drewN no wr nq
        generalize wr.drewN nq = wz at *
        replace hW := hW.comp hxq
        replace hO := hO.ext (by simp) hxq (fun h => h)
        replace hX := hX.ext (by simp) hxq (fun h => h)
        clear hxq
        clear q1
        have hA0 : Ext no w (wz.alloc (.cells #[] 65)) := hW.comp (Ext.alloc no _ _)
        have hf : Rd (wz.alloc (.cells #[] 65)) la (rows PairR.cells (l.take i)) := by have q := (kvRd_no hr hA0).take (i * 2); rwa [rows_take kPair] at q
        obtain ⟨B, hB⟩ : ∃ B, B = wz.heap.size := ⟨_, rfl⟩
        have hz : Own (wz.alloc (.cells #[] 65)) B (some ⟨wz.heap.size, 0, none⟩) 2 0 0 [] := by rw [hB]; exact Own.fresh wz _ _ _ _ _ _ _ _ (Nat.le_refl _) (by simp) (Nat.le_refl _) (Nat.zero_le _) (by simp) (by simp) (.inl (Nat.le_refl _))
        have hcA : ∀ w, (Instr.sliceAt 32 (.slice la l.length lc) none (some (.int .i64 (i : Int))) none).run Try.prog w = .ok (.slice la i lc) w := fun w => run_cut_h TPair w la _ lc .i64 i (by omega)
        have hB1 : g < B := by have := hO.lt (by simp); omega
        have hB2 : w.heap.size ≤ B := by omega
        have hB3 : B ≤ wz.heap.size := by omega
        have hB4 : wz.heap.size ≤ B := by omega
        clear hB
        go_wp2_with (at_builtin; refine wpList_append TPair rfl rfl rfl hz rfl hf (by rw [rows_length kPair, List.length_take]; congr 1; omega) (onePair _) ?c1 ?c2 (by simp; omega) ?_)
        case c1 => unfold maxLen; omega
        case c2 => omega
        intro a1 c1 w5 hp1
        try rw [Nat.zero_add]
        have ho1 := hp1.own
        rw [Nat.zero_add, List.nil_append] at ho1
        have hxA : Ext no wz w5 := (Ext.alloc no _ _).trans hp1.ext (fun k hk => by rintro ⟨ad, h, hb⟩; cases h; simp only at hb; omega)
        have hBs : B ≤ w5.heap.size := by have := hxA.size; omega
        clear hp1 hz hf hcA hB3 hB4 hA0
        replace hW := hW.comp hxA
        replace hO := hO.ext (by simp) hxA (fun h => h)
        replace hX := hX.ext (by simp) hxA (fun h => h)
        clear hxA
        have q3 := hO.cell 3 _ rfl
        cases d with
        | true =>
          have hF : Own w5 B a1 2 i c1 (rows PairR.cells (l.take i ++ Go.Esc.newRow (⟨1, k, v, true⟩ : ChangeR))) := by have e : Go.Esc.newRow (⟨1, k, v, true⟩ : ChangeR) = [] := rfl; rw [e, List.append_nil]; exact ho1
          clear ho1
          go_upto_region 8 with fail
          clear q3
          generalize w5 = w6 at *
          obtain ⟨a2, ha2⟩ : ∃ a2, a2 = a1 := ⟨_, rfl⟩
          obtain ⟨c2, hc2⟩ : ∃ c2, c2 = c1 := ⟨_, rfl⟩
          rw [← ha2, ← hc2] at hF ⊢
          clear ha2 hc2
          have HR := Lib.hid (show E = (l.take i ++ Go.Esc.newRow (⟨1, k, v, true⟩ : ChangeR)) ++ l.drop (i) by rw [HE.out]; unfold rowPut rowQ rowP; rw [← HP.out, List.getElem?_eq_none (by omega)])
          go_upto_region 8 with fail
          go_quiet (fail)
          have hxq := Ext.drewN no w6 nq
          generalize w6.drewN nq = w7 at *
          replace hW := hW.comp hxq
          replace hO := hO.ext (by simp) hxq (fun h => h)
          replace hX := hX.ext (by simp) hxq (fun h => h)
          replace hF := hF.ext hxq (fun _ _ h => h)
          replace hBs := Nat.le_trans hBs hxq.size
          clear hxq
          have q0 := hO.cell 0 _ rfl
          have x1 := hX.cell 1 _ rfl
          have xf := hX.fr 1
          have hcC : ∀ w, (Instr.sliceAt 32 (.slice la l.length lc) (some (.int .i64 (i : Int))) none none).run Try.prog w = .ok (.slice (cutAt la lc (i) 2) (l.length - (i)) (lc - (i))) w := fun w => run_cut_l TPair w la _ lc .i64 (i) (by omega)
          have hf2 : Rd w7 (cutAt la lc (i) 2) (rows PairR.cells (l.drop (i))) := by have q := (kvRd_no hr hW).cutAt lc (i) 2 (fun e => by rw [rows_length kPair]; exact Nat.mul_le_mul_right _ (by omega)); rwa [rows_drop kPair] at q
          go_upto_region 10 with fail
          refine wp_region_F [2] (looks [(2, fun z => z.cell? ⟨g, 0, none⟩ = some (.int .i64 1))]) (by kernel_rfl) ?_
          have hT0 : ∀ k, looks [(2, fun z => z.cell? ⟨g, 0, none⟩ = some (.int .i64 1))] k (w7.drew) := looks_all ⟨(hO.drew).cell 0 _ rfl, trivial⟩
          refine wpF_take 0 (v := ?_) rfl (by kernel_rfl) (by kernel_rfl) (by kernel_rfl) (fun _ _ _ h => h) hT0 (by rfl) ?_ ?_
          rotate_left
          · (intro wq; go_simp; try with_reducible rfl)
          simp only [Act.put, List.setIfInBounds_toArray, List.set_cons_zero, List.set_cons_succ]
          refine wpF_take 1 (v := ?_) rfl (by kernel_rfl) (by kernel_rfl) (by kernel_rfl) (fun _ _ _ h => h) hT0 (by rfl) ?_ ?_
          rotate_left
          · (intro wq; go_simp; try with_reducible rfl)
          simp only [Act.put, List.setIfInBounds_toArray, List.set_cons_zero, List.set_cons_succ]
          refine wpF_look 2 (v := .int .i64 1) rfl rfl (by kernel_rfl) (by kernel_rfl) (by kernel_rfl) (by kernel_rfl) (fun _ _ _ h => h) hT0 (by rfl) (fun w hS => by have hS : w.cell? ⟨g, 0, none⟩ = some (.int .i64 1) := hS; have q := hS; go_simp) ?_
          simp only [Act.put, List.setIfInBounds_toArray, List.set_cons_zero, List.set_cons_succ]
          refine wpF_take 3 (v := ?_) rfl (by kernel_rfl) (by kernel_rfl) (by kernel_rfl) (fun _ _ _ h => h) hT0 (by rfl) ?_ ?_
          rotate_left
          · (intro wq; go_simp; try with_reducible rfl)
          simp only [Act.put, List.setIfInBounds_toArray, List.set_cons_zero, List.set_cons_succ]
          refine wpF_take 4 (v := ?_) rfl (by kernel_rfl) (by kernel_rfl) (by kernel_rfl) (fun _ _ _ h => h) hT0 (by rfl) ?_ ?_
          rotate_left
          · (intro wq; go_simp; try with_reducible rfl)
          simp only [Act.put, List.setIfInBounds_toArray, List.set_cons_zero, List.set_cons_succ]
          refine wpF_take 5 (v := ?_) rfl (by kernel_rfl) (by kernel_rfl) (by kernel_rfl) (fun _ _ _ h => h) hT0 (by rfl) ?_ ?_
          rotate_left
          · (intro wq; go_simp; try with_reducible rfl)
          simp only [Act.put, List.setIfInBounds_toArray, List.set_cons_zero, List.set_cons_succ]
          refine wpF_take 6 (v := .slice (cutAt la lc (i) 2) (l.length - (i)) (lc - (i))) rfl (by kernel_rfl) (by kernel_rfl) (by kernel_rfl) (fun _ _ _ h => h) hT0 (by rfl) (by intro wq; go_simp) ?_
          simp only [Act.put, List.setIfInBounds_toArray, List.set_cons_zero, List.set_cons_succ]
          refine wpF_take 8 (v := ?_) rfl (by kernel_rfl) (by kernel_rfl) (by kernel_rfl) (fun _ _ _ h => h) hT0 (by rfl) ?_ ?_
          rotate_left
          · (intro wq; go_simp; try with_reducible rfl)
          simp only [Act.put, List.setIfInBounds_toArray, List.set_cons_zero, List.set_cons_succ]
          refine wpF_take 9 (v := ?_) rfl (by kernel_rfl) (by kernel_rfl) (by kernel_rfl) (fun _ _ _ h => h) hT0 (by rfl) ?_ ?_
          rotate_left
          · (intro wq; go_simp; try with_reducible rfl)
          simp only [Act.put, List.setIfInBounds_toArray, List.set_cons_zero, List.set_cons_succ]
          refine wpF_exec 7 rfl (by kernel_rfl) (by rfl) ?_
          intro K hK
          refine op_append (m := l.length - (i)) TPair rfl rfl hF.drew rfl (hf2.ext (Ext.drew no w7) (fun _ _ h => h)) (by rw [rows_length kPair, List.length_drop]) (onePair _) (by unfold maxLen; omega) (by omega) (by show B ≤ w7.heap.size; omega) ?_
          intro a4 c4 w8 hp4
          have xx := (Ext.drew (blk a2) w7).comp hp4.ext
          have nx : ¬ blk a2 x := by rintro ⟨ad, h, hb⟩; have := (hF.base ad h).1; omega
          have hX8 := hX.ext (by simp) xx nx
          have hW8 := hW.trans xx (fun k hk => by rintro ⟨ad, h, hb⟩; have := (hF.base ad h).1; omega)
          have ho8 := hp4.own
          have hO8 := hO.ext (by simp) xx (by rintro ⟨ad, h, hb⟩; have := (hF.base ad h).1; omega)
          obtain ⟨nn, hnn⟩ : ∃ nn, nn = i + (l.length - (i)) := ⟨_, rfl⟩
          rw [← hnn] at ho8 ⊢
          have Hnn := Lib.hid hnn
          clear hnn hp4 xx nx
          have hT1 : ∀ k, looks [(2, fun z => z.cell? ⟨g, 0, none⟩ = some (.int .i64 1))] k (w8) := looks_all ⟨hO8.cell 0 _ rfl, trivial⟩
          refine hK _ _ (looks [(2, fun z => z.cell? ⟨g, 0, none⟩ = some (.int .i64 1))]) ⟨.inr (.inr (fun x h => h)), trivial⟩ hT1 ?_
          clear hK K
          try simp only [Act.put, List.setIfInBounds_toArray, List.set_cons_zero, List.set_cons_succ]
          refine wpF_take 10 (v := .pointer (some ⟨x, 1, none⟩)) rfl (by kernel_rfl) (by kernel_rfl) (by kernel_rfl) (fun _ _ _ h => h) hT1 (by rfl) (by intro wq; go_simp) ?_
          simp only [Act.put, List.setIfInBounds_toArray, List.set_cons_zero, List.set_cons_succ]
          refine wpF_exec 11 rfl (by kernel_rfl) (by rfl) ?_
          intro K hK
          have y1 := hX8.cell 1 _ rfl
          have yf := hX8.fr 1
          go_simp
          have hX9 := hX8.set 1 (.slice a4 nn c4) (by simp)
          have hx9 : Ext (just x) w8 (w8.setCell ⟨x, 1, none⟩ (.slice a4 nn c4)) := Ext.setCell _ _ _ rfl
          generalize w8.setCell ⟨x, 1, none⟩ (.slice a4 nn c4) = w9 at *
          have hT2 : ∀ k, looks [(2, fun z => True)] k (w9) := looks_all ⟨trivial, trivial⟩
          refine hK _ _ (looks [(2, fun z => True)]) ⟨.inr (.inl (by kernel_rfl)), trivial⟩ hT2 ?_
          clear hK K
          try simp only [Act.put, List.setIfInBounds_toArray, List.set_cons_zero, List.set_cons_succ]
          refine wpF_done (by kernel_rfl) ?_ _
          have hlen : nn = E.length := by have hnr : (Go.Esc.newRow (⟨1, k, v, true⟩ : ChangeR)).length = 0 := rfl; rw [Hnn.out, HR.out, List.length_append, List.length_append, List.length_take, List.length_drop, hnr]; omega
          have ho9 : Own w9 w.heap.size a4 2 E.length c4 (rows PairR.cells E) := by
            have q := (ho8.ext hx9 (fun ad ha e => by have e : ad.block = x := e; have := (ho8.base ad ha).1; omega)).mono hB2
            rw [← rows_append, ← HR.out, hlen] at q
            exact q
          rw [hlen] at hX9
          have hWX : Ext (just x) w w9 := (hW8.mono (fun _ _ h => h.elim)).comp hx9
          clear hlen hX8 hW8 ho8 hx9
          go_wp2_with fail
          go_end0
          exact ⟨rfl, a4, c4, hX9, ho9, hWX⟩
        | false =>
          have z1 := hO.cell 1 _ rfl
          have z2 := hO.cell 2 _ rfl
          have hX1 : Rd (w5.alloc (.cells #[.string (str k), .string (str v)] 65)) (some ⟨w5.heap.size, 0, none⟩) (PairR.cells ⟨k, v⟩) := Rd.lit w5 #[.string (str k), .string (str v)] _ _
          go_wp2_with (at_builtin; refine wpList_append TPair rfl rfl rfl (ho1.alloc _) rfl hX1 rfl (one1Pair ⟨k, v⟩) ?c1 ?c2 ?c3 ?_)
          case c1 => unfold maxLen; omega
          case c2 => omega
          case c3 => first | omega | (simp; omega)
          intro a2 c2 w6 hp2
          have hF : Own w6 B a2 2 (i + 1) c2 (rows PairR.cells (l.take i ++ Go.Esc.newRow (⟨1, k, v, false⟩ : ChangeR))) := by have q := hp2.own; rw [rows_append]; exact q
          have xx := (Ext.alloc (blk a1) w5 (.cells #[.string (str k), .string (str v)] 65)).comp hp2.ext
          have nx : ∀ q, q < B → ¬ blk a1 q := fun q hq => by rintro ⟨ad, h, hb⟩; have := (ho1.base ad h).1; omega
          replace hX := hX.ext (by simp) xx (nx _ (by omega))
          replace hO := hO.ext (by simp) xx (nx _ (by omega))
          replace hW := hW.trans xx (fun k hk => nx k (by omega))
          replace hBs := Nat.le_trans hBs xx.size
          clear hp2 hX1 xx nx ho1 z1 z2 q3
          have HR := Lib.hid (show E = (l.take i ++ Go.Esc.newRow (⟨1, k, v, false⟩ : ChangeR)) ++ l.drop (i) by rw [HE.out]; unfold rowPut rowQ rowP; rw [← HP.out, List.getElem?_eq_none (by omega)])
          go_upto_region 8 with fail
          go_quiet (fail)
          have hxq := Ext.drewN no w6 nq
          generalize w6.drewN nq = w7 at *
          replace hW := hW.comp hxq
          replace hO := hO.ext (by simp) hxq (fun h => h)
          replace hX := hX.ext (by simp) hxq (fun h => h)
          replace hF := hF.ext hxq (fun _ _ h => h)
          replace hBs := Nat.le_trans hBs hxq.size
          clear hxq
          have q0 := hO.cell 0 _ rfl
          have x1 := hX.cell 1 _ rfl
          have xf := hX.fr 1
          have hcC : ∀ w, (Instr.sliceAt 32 (.slice la l.length lc) (some (.int .i64 (i : Int))) none none).run Try.prog w = .ok (.slice (cutAt la lc (i) 2) (l.length - (i)) (lc - (i))) w := fun w => run_cut_l TPair w la _ lc .i64 (i) (by omega)
          have hf2 : Rd w7 (cutAt la lc (i) 2) (rows PairR.cells (l.drop (i))) := by have q := (kvRd_no hr hW).cutAt lc (i) 2 (fun e => by rw [rows_length kPair]; exact Nat.mul_le_mul_right _ (by omega)); rwa [rows_drop kPair] at q
          go_upto_region 10 with fail
          refine wp_region_F [2] (looks [(2, fun z => z.cell? ⟨g, 0, none⟩ = some (.int .i64 1))]) (by kernel_rfl) ?_
          have hT0 : ∀ k, looks [(2, fun z => z.cell? ⟨g, 0, none⟩ = some (.int .i64 1))] k (w7.drew) := looks_all ⟨(hO.drew).cell 0 _ rfl, trivial⟩
          refine wpF_take 0 (v := ?_) rfl (by kernel_rfl) (by kernel_rfl) (by kernel_rfl) (fun _ _ _ h => h) hT0 (by rfl) ?_ ?_
          rotate_left
          · (intro wq; go_simp; try with_reducible rfl)
          simp only [Act.put, List.setIfInBounds_toArray, List.set_cons_zero, List.set_cons_succ]
          refine wpF_take 1 (v := ?_) rfl (by kernel_rfl) (by kernel_rfl) (by kernel_rfl) (fun _ _ _ h => h) hT0 (by rfl) ?_ ?_
          rotate_left
          · (intro wq; go_simp; try with_reducible rfl)
          simp only [Act.put, List.setIfInBounds_toArray, List.set_cons_zero, List.set_cons_succ]
          refine wpF_look 2 (v := .int .i64 1) rfl rfl (by kernel_rfl) (by kernel_rfl) (by kernel_rfl) (by kernel_rfl) (fun _ _ _ h => h) hT0 (by rfl) (fun w hS => by have hS : w.cell? ⟨g, 0, none⟩ = some (.int .i64 1) := hS; have q := hS; go_simp) ?_
          simp only [Act.put, List.setIfInBounds_toArray, List.set_cons_zero, List.set_cons_succ]
          refine wpF_take 3 (v := ?_) rfl (by kernel_rfl) (by kernel_rfl) (by kernel_rfl) (fun _ _ _ h => h) hT0 (by rfl) ?_ ?_
          rotate_left
          · (intro wq; go_simp; try with_reducible rfl)
          simp only [Act.put, List.setIfInBounds_toArray, List.set_cons_zero, List.set_cons_succ]
          refine wpF_take 4 (v := ?_) rfl (by kernel_rfl) (by kernel_rfl) (by kernel_rfl) (fun _ _ _ h => h) hT0 (by rfl) ?_ ?_
          rotate_left
          · (intro wq; go_simp; try with_reducible rfl)
          simp only [Act.put, List.setIfInBounds_toArray, List.set_cons_zero, List.set_cons_succ]
          refine wpF_take 5 (v := ?_) rfl (by kernel_rfl) (by kernel_rfl) (by kernel_rfl) (fun _ _ _ h => h) hT0 (by rfl) ?_ ?_
          rotate_left
          · (intro wq; go_simp; try with_reducible rfl)
          simp only [Act.put, List.setIfInBounds_toArray, List.set_cons_zero, List.set_cons_succ]
          refine wpF_take 6 (v := .slice (cutAt la lc (i) 2) (l.length - (i)) (lc - (i))) rfl (by kernel_rfl) (by kernel_rfl) (by kernel_rfl) (fun _ _ _ h => h) hT0 (by rfl) (by intro wq; go_simp) ?_
          simp only [Act.put, List.setIfInBounds_toArray, List.set_cons_zero, List.set_cons_succ]
          refine wpF_take 8 (v := ?_) rfl (by kernel_rfl) (by kernel_rfl) (by kernel_rfl) (fun _ _ _ h => h) hT0 (by rfl) ?_ ?_
          rotate_left
          · (intro wq; go_simp; try with_reducible rfl)
          simp only [Act.put, List.setIfInBounds_toArray, List.set_cons_zero, List.set_cons_succ]
          refine wpF_take 9 (v := ?_) rfl (by kernel_rfl) (by kernel_rfl) (by kernel_rfl) (fun _ _ _ h => h) hT0 (by rfl) ?_ ?_
          rotate_left
          · (intro wq; go_simp; try with_reducible rfl)
          simp only [Act.put, List.setIfInBounds_toArray, List.set_cons_zero, List.set_cons_succ]
          refine wpF_exec 7 rfl (by kernel_rfl) (by rfl) ?_
          intro K hK
          refine op_append (m := l.length - (i)) TPair rfl rfl hF.drew rfl (hf2.ext (Ext.drew no w7) (fun _ _ h => h)) (by rw [rows_length kPair, List.length_drop]) (onePair _) (by unfold maxLen; omega) (by omega) (by show B ≤ w7.heap.size; omega) ?_
          intro a4 c4 w8 hp4
          have xx := (Ext.drew (blk a2) w7).comp hp4.ext
          have nx : ¬ blk a2 x := by rintro ⟨ad, h, hb⟩; have := (hF.base ad h).1; omega
          have hX8 := hX.ext (by simp) xx nx
          have hW8 := hW.trans xx (fun k hk => by rintro ⟨ad, h, hb⟩; have := (hF.base ad h).1; omega)
          have ho8 := hp4.own
          have hO8 := hO.ext (by simp) xx (by rintro ⟨ad, h, hb⟩; have := (hF.base ad h).1; omega)
          obtain ⟨nn, hnn⟩ : ∃ nn, nn = (i + 1) + (l.length - (i)) := ⟨_, rfl⟩
          rw [← hnn] at ho8 ⊢
          have Hnn := Lib.hid hnn
          clear hnn hp4 xx nx
          have hT1 : ∀ k, looks [(2, fun z => z.cell? ⟨g, 0, none⟩ = some (.int .i64 1))] k (w8) := looks_all ⟨hO8.cell 0 _ rfl, trivial⟩
          refine hK _ _ (looks [(2, fun z => z.cell? ⟨g, 0, none⟩ = some (.int .i64 1))]) ⟨.inr (.inr (fun x h => h)), trivial⟩ hT1 ?_
          clear hK K
          try simp only [Act.put, List.setIfInBounds_toArray, List.set_cons_zero, List.set_cons_succ]
          refine wpF_take 10 (v := .pointer (some ⟨x, 1, none⟩)) rfl (by kernel_rfl) (by kernel_rfl) (by kernel_rfl) (fun _ _ _ h => h) hT1 (by rfl) (by intro wq; go_simp) ?_
          simp only [Act.put, List.setIfInBounds_toArray, List.set_cons_zero, List.set_cons_succ]
          refine wpF_exec 11 rfl (by kernel_rfl) (by rfl) ?_
          intro K hK
          have y1 := hX8.cell 1 _ rfl
          have yf := hX8.fr 1
          go_simp
          have hX9 := hX8.set 1 (.slice a4 nn c4) (by simp)
          have hx9 : Ext (just x) w8 (w8.setCell ⟨x, 1, none⟩ (.slice a4 nn c4)) := Ext.setCell _ _ _ rfl
          generalize w8.setCell ⟨x, 1, none⟩ (.slice a4 nn c4) = w9 at *
          have hT2 : ∀ k, looks [(2, fun z => True)] k (w9) := looks_all ⟨trivial, trivial⟩
          refine hK _ _ (looks [(2, fun z => True)]) ⟨.inr (.inl (by kernel_rfl)), trivial⟩ hT2 ?_
          clear hK K
          try simp only [Act.put, List.setIfInBounds_toArray, List.set_cons_zero, List.set_cons_succ]
          refine wpF_done (by kernel_rfl) ?_ _
          have hlen : nn = E.length := by have hnr : (Go.Esc.newRow (⟨1, k, v, false⟩ : ChangeR)).length = 1 := rfl; rw [Hnn.out, HR.out, List.length_append, List.length_append, List.length_take, List.length_drop, hnr]; omega
          have ho9 : Own w9 w.heap.size a4 2 E.length c4 (rows PairR.cells E) := by
            have q := (ho8.ext hx9 (fun ad ha e => by have e : ad.block = x := e; have := (ho8.base ad ha).1; omega)).mono hB2
            rw [← rows_append, ← HR.out, hlen] at q
            exact q
          rw [hlen] at hX9
          have hWX : Ext (just x) w w9 := (hW8.mono (fun _ _ h => h.elim)).comp hx9
          clear hlen hX8 hW8 ho8 hx9
          go_wp2_with fail
          go_end0
          exact ⟨rfl, a4, c4, hX9, ho9, hWX⟩
set_option maxRecDepth 100000 in
set_option maxHeartbeats 8000000 in
theorem rput2_any (w : World) (x : Nat) (v0 v1 v2 : Value) (la : Option Addr) (l : List PairR) (lc : Nat) (k v : List UInt8) (d : Bool) (hX : Blk w x [v0, v1, .slice la l.length lc]) (hr : Rd w la (rows PairR.cells l)) (hl : l.length ≤ 1099511627775) (hlc : l.length ≤ lc) :
    Calls Try.prog 39 #[.pointer (some ⟨x, 0, none⟩), .agg #[.int .i64 2, .string (str k), .string (str v), .bool d]] w fun e w' => e = .returned (.tuple #[]) ∧ ∃ a' c', Blk w' x ([v0, v1, .slice la l.length lc].set 2 (.slice a' (rowPut l (⟨2, k, v, d⟩ : ChangeR)).length c')) ∧ Own w' w.heap.size a' 2 (rowPut l (⟨2, k, v, d⟩ : ChangeR)).length c' (rows PairR.cells (rowPut l (⟨2, k, v, d⟩ : ChangeR))) ∧ Ext (just x) w w' := by
  obtain ⟨E, hE⟩ : ∃ E, E = rowPut l (⟨2, k, v, d⟩ : ChangeR) := ⟨_, rfl⟩
  rw [← hE]
  have HE := Lib.hid hE
  clear hE
  have hxl := hX.lt (by simp)
  obtain ⟨P, hP⟩ : ∃ P, P = posOf PairR.key Op.bytesLess k l := ⟨_, rfl⟩
  have hPl : P ≤ l.length := by rw [hP]; exact posOf_le _ _
  have HL := Lib.hid (show ∀ (j : Nat) x, j < P → l[j]? = some x → Op.bytesLess x.key k = true by rw [hP]; exact pos_lt _ _)
  have HA := Lib.hid (show ∀ x, l[P]? = some x → Op.bytesLess x.key k = false by rw [hP]; exact pos_at _ _)
  have HP := Lib.hid hP
  clear hP
  go_enter Try.func39, Try.ntmps39
  go_upto_region 1 with fail
  have hO := Blk.lit w #[.int .i64 2, .string (str k), .string (str v), .bool d] 90
  have hW := Ext.alloc no w (.cells #[.int .i64 2, .string (str k), .string (str v), .bool d] 90)
  replace hX := hX.ext (by simp) hW (fun h => h)
  have hOl := hO.lt (by simp)
  generalize w.alloc (.cells #[.int .i64 2, .string (str k), .string (str v), .bool d] 90) = w1 at *
  obtain ⟨g, hg⟩ : ∃ g, g = w.heap.size := ⟨_, rfl⟩
  have hgw : w.heap.size ≤ g := by omega
  have hxg : x < g := by omega
  rw [← hg] at hO hOl ⊢
  clear hg
  have q0 := hO.cell 0 _ rfl
  have x2 := hX.cell 2 _ rfl
  go_quiet (fail)
  have hxq := Ext.drewN no w1 nq
  generalize w1.drewN nq = w2 at *
  replace hW := hW.comp hxq
  replace hO := hO.ext (by simp) hxq (fun h => h)
  replace hX := hX.ext (by simp) hxq (fun h => h)
  clear hxq
  clear q0 x2
  go_wp2_with fail
  go_loopw [5] (fun s5 wr => ∃ i : Nat, s5 = .int .i64 i ∧ i ≤ P ∧ Ext no w2 wr) (fun s5 _ => l.length - (intOf s5).toNat)
  case atStart => exact ⟨0, rfl, Nat.zero_le _, Ext.refl _ _⟩
  case round =>
    obtain ⟨i, rfl, hiP, hx⟩ := hrel
    have hx0 := hx
    replace hW := hW.comp hx
    replace hO := hO.ext (by simp) hx (fun h => h)
    replace hX := hX.ext (by simp) hx (fun h => h)
    clear hx
    have q1 := hO.cell 1 _ rfl
    by_cases hin : i < P
    · have hil : i < l.length := by omega
      have d1 : decide (i < l.length) = true := decT hil
      obtain ⟨r, hrm⟩ : ∃ r, l[i]? = some r := ⟨_, List.getElem?_eq_getElem hil⟩
      have d2 : Op.bytesLess (str r.key).toList (str k).toList = true := by rw [toList_str, toList_str]; exact HL.out i r hin hrm
      obtain ⟨b, off, hsa, _⟩ := rows_shape kPair (by omega) hr (by omega)
      have hrr := kvRd_no hr hW
      rw [hsa] at hrr
      have y0 : wr.cell? ⟨b, off + i * 2, none⟩ = some (.string (str r.key)) := rows_cell kPair hrr hrm 0 _ rfl
      have y1 : wr.cell? ⟨b, off + i * 2 + 1, none⟩ = some (.string (str r.val)) := rows_cell kPair hrr hrm 1 _ rfl
      clear hrr
      subst hsa
      clear hrm
      go_upto_region 3 with fail
      go_quiet (fail)
      have hx0 := hx0.comp (Ext.drewN no wr nq)
      generalize wr.drewN nq = wz at *
      go_wp2_with fail
      go_roundw
      case rel => exact ⟨i + 1, by go_num, by omega, hx0⟩
      case measure => simp [intOf]; omega
    · have hiP2 : i = P := by omega
      subst hiP2
      clear hx0 hin hiP
      by_cases hPn : i < l.length
      · obtain ⟨r, hrm⟩ : ∃ r, l[i]? = some r := ⟨_, List.getElem?_eq_getElem hPn⟩
        have d1 : decide (i < l.length) = true := decT hPn
        have d2 : Op.bytesLess (str r.key).toList (str k).toList = false := by rw [toList_str, toList_str]; exact HA.out r hrm
        obtain ⟨b, off, hsa, _⟩ := rows_shape kPair (by omega) hr (by omega)
        have hrr := kvRd_no hr hW
        rw [hsa] at hrr
        have y0 : wr.cell? ⟨b, off + i * 2, none⟩ = some (.string (str r.key)) := rows_cell kPair hrr hrm 0 _ rfl
        have y1 : wr.cell? ⟨b, off + i * 2 + 1, none⟩ = some (.string (str r.val)) := rows_cell kPair hrr hrm 1 _ rfl
        clear hrr
        subst hsa
        go_upto_region 3 with fail
        go_quiet (fail)
        have hxq := Ext.drewN no wr nq
        generalize wr.drewN nq = wz at *
        replace hW := hW.comp hxq
        replace hO := hO.ext (by simp) hxq (fun h => h)
        replace hX := hX.ext (by simp) hxq (fun h => h)
        clear hxq
        clear q1 d2 y0 y1
        have hA0 : Ext no w (wz.alloc (.cells #[] 65)) := hW.comp (Ext.alloc no _ _)
        have hf : Rd (wz.alloc (.cells #[] 65)) (some ⟨b, off, none⟩) (rows PairR.cells (l.take i)) := by have q := (kvRd_no hr hA0).take (i * 2); rwa [rows_take kPair] at q
        obtain ⟨B, hB⟩ : ∃ B, B = wz.heap.size := ⟨_, rfl⟩
        have hz : Own (wz.alloc (.cells #[] 65)) B (some ⟨wz.heap.size, 0, none⟩) 2 0 0 [] := by rw [hB]; exact Own.fresh wz _ _ _ _ _ _ _ _ (Nat.le_refl _) (by simp) (Nat.le_refl _) (Nat.zero_le _) (by simp) (by simp) (.inl (Nat.le_refl _))
        have hcA : ∀ w, (Instr.sliceAt 32 (.slice (some ⟨b, off, none⟩) l.length lc) none (some (.int .i64 (i : Int))) none).run Try.prog w = .ok (.slice (some ⟨b, off, none⟩) i lc) w := fun w => run_cut_h TPair w (some ⟨b, off, none⟩) _ lc .i64 i (by omega)
        have hB1 : g < B := by have := hO.lt (by simp); omega
        have hB2 : w.heap.size ≤ B := by omega
        have hB3 : B ≤ wz.heap.size := by omega
        have hB4 : wz.heap.size ≤ B := by omega
        clear hB
        go_wp2_with (at_builtin; refine wpList_append TPair rfl rfl rfl hz rfl hf (by rw [rows_length kPair, List.length_take]; congr 1; omega) (onePair _) ?c1 ?c2 (by simp; omega) ?_)
        case c1 => unfold maxLen; omega
        case c2 => omega
        intro a1 c1 w5 hp1
        try rw [Nat.zero_add]
        have ho1 := hp1.own
        rw [Nat.zero_add, List.nil_append] at ho1
        have hxA : Ext no wz w5 := (Ext.alloc no _ _).trans hp1.ext (fun k hk => by rintro ⟨ad, h, hb⟩; cases h; simp only at hb; omega)
        have hBs : B ≤ w5.heap.size := by have := hxA.size; omega
        clear hp1 hz hf hcA hB3 hB4 hA0
        replace hW := hW.comp hxA
        replace hO := hO.ext (by simp) hxA (fun h => h)
        replace hX := hX.ext (by simp) hxA (fun h => h)
        clear hxA
        have q3 := hO.cell 3 _ rfl
        cases d with
        | true =>
          have hF : Own w5 B a1 2 i c1 (rows PairR.cells (l.take i ++ Go.Esc.newRow (⟨2, k, v, true⟩ : ChangeR))) := by have e : Go.Esc.newRow (⟨2, k, v, true⟩ : ChangeR) = [] := rfl; rw [e, List.append_nil]; exact ho1
          clear ho1
          go_upto_region 8 with fail
          clear q3
          generalize w5 = w6 at *
          obtain ⟨a2, ha2⟩ : ∃ a2, a2 = a1 := ⟨_, rfl⟩
          obtain ⟨c2, hc2⟩ : ∃ c2, c2 = c1 := ⟨_, rfl⟩
          rw [← ha2, ← hc2] at hF ⊢
          clear ha2 hc2
          have hrr := kvRd_no hr hW
          have y0 : w6.cell? ⟨b, off + i * 2, none⟩ = some (.string (str r.key)) := rows_cell kPair hrr hrm 0 _ rfl
          clear hrr
          have q1 := hO.cell 1 _ rfl
          by_cases hk : r.key = k
          · have d3 : ((str r.key).toList == (str k).toList) = true := beqStrT hk
            have HR := Lib.hid (show E = (l.take i ++ Go.Esc.newRow (⟨2, k, v, true⟩ : ChangeR)) ++ l.drop (i + 1) by rw [HE.out]; unfold rowPut rowQ rowP; rw [← HP.out, hrm]; simp only; rw [if_pos hk])
            clear hk
            go_upto_region 8 with fail
            go_quiet (fail)
            have hxq := Ext.drewN no w6 nq
            generalize w6.drewN nq = w7 at *
            replace hW := hW.comp hxq
            replace hO := hO.ext (by simp) hxq (fun h => h)
            replace hX := hX.ext (by simp) hxq (fun h => h)
            replace hF := hF.ext hxq (fun _ _ h => h)
            replace hBs := Nat.le_trans hBs hxq.size
            clear hxq
            clear y0 q1 d3
            have q0 := hO.cell 0 _ rfl
            have x2 := hX.cell 2 _ rfl
            have xf := hX.fr 2
            have hcC : ∀ w, (Instr.sliceAt 32 (.slice (some ⟨b, off, none⟩) l.length lc) (some (.int .i64 ((i : Int) + 1))) none none).run Try.prog w = .ok (.slice (cutAt (some ⟨b, off, none⟩) lc (i + 1) 2) (l.length - (i + 1)) (lc - (i + 1))) w := fun w => run_cut_l TPair w (some ⟨b, off, none⟩) _ lc .i64 (i + 1) (by omega)
            have hf2 : Rd w7 (cutAt (some ⟨b, off, none⟩) lc (i + 1) 2) (rows PairR.cells (l.drop (i + 1))) := by have q := (kvRd_no hr hW).cutAt lc (i + 1) 2 (fun e => by rw [rows_length kPair]; exact Nat.mul_le_mul_right _ (by omega)); rwa [rows_drop kPair] at q
            go_upto_region 10 with fail
            refine wp_region_F [2] (looks [(2, fun z => z.cell? ⟨g, 0, none⟩ = some (.int .i64 2))]) (by kernel_rfl) ?_
            have hT0 : ∀ k, looks [(2, fun z => z.cell? ⟨g, 0, none⟩ = some (.int .i64 2))] k (w7.drew) := looks_all ⟨(hO.drew).cell 0 _ rfl, trivial⟩
            refine wpF_take 0 (v := ?_) rfl (by kernel_rfl) (by kernel_rfl) (by kernel_rfl) (fun _ _ _ h => h) hT0 (by rfl) ?_ ?_
            rotate_left
            · (intro wq; go_simp; try with_reducible rfl)
            simp only [Act.put, List.setIfInBounds_toArray, List.set_cons_zero, List.set_cons_succ]
            refine wpF_take 1 (v := ?_) rfl (by kernel_rfl) (by kernel_rfl) (by kernel_rfl) (fun _ _ _ h => h) hT0 (by rfl) ?_ ?_
            rotate_left
            · (intro wq; go_simp; try with_reducible rfl)
            simp only [Act.put, List.setIfInBounds_toArray, List.set_cons_zero, List.set_cons_succ]
            refine wpF_look 2 (v := .int .i64 2) rfl rfl (by kernel_rfl) (by kernel_rfl) (by kernel_rfl) (by kernel_rfl) (fun _ _ _ h => h) hT0 (by rfl) (fun w hS => by have hS : w.cell? ⟨g, 0, none⟩ = some (.int .i64 2) := hS; have q := hS; go_simp) ?_
            simp only [Act.put, List.setIfInBounds_toArray, List.set_cons_zero, List.set_cons_succ]
            refine wpF_take 3 (v := ?_) rfl (by kernel_rfl) (by kernel_rfl) (by kernel_rfl) (fun _ _ _ h => h) hT0 (by rfl) ?_ ?_
            rotate_left
            · (intro wq; go_simp; try with_reducible rfl)
            simp only [Act.put, List.setIfInBounds_toArray, List.set_cons_zero, List.set_cons_succ]
            refine wpF_take 4 (v := ?_) rfl (by kernel_rfl) (by kernel_rfl) (by kernel_rfl) (fun _ _ _ h => h) hT0 (by rfl) ?_ ?_
            rotate_left
            · (intro wq; go_simp; try with_reducible rfl)
            simp only [Act.put, List.setIfInBounds_toArray, List.set_cons_zero, List.set_cons_succ]
            refine wpF_take 5 (v := ?_) rfl (by kernel_rfl) (by kernel_rfl) (by kernel_rfl) (fun _ _ _ h => h) hT0 (by rfl) ?_ ?_
            rotate_left
            · (intro wq; go_simp; try with_reducible rfl)
            simp only [Act.put, List.setIfInBounds_toArray, List.set_cons_zero, List.set_cons_succ]
            refine wpF_take 6 (v := .slice (cutAt (some ⟨b, off, none⟩) lc (i + 1) 2) (l.length - (i + 1)) (lc - (i + 1))) rfl (by kernel_rfl) (by kernel_rfl) (by kernel_rfl) (fun _ _ _ h => h) hT0 (by rfl) (by intro wq; go_simp) ?_
            simp only [Act.put, List.setIfInBounds_toArray, List.set_cons_zero, List.set_cons_succ]
            refine wpF_take 8 (v := ?_) rfl (by kernel_rfl) (by kernel_rfl) (by kernel_rfl) (fun _ _ _ h => h) hT0 (by rfl) ?_ ?_
            rotate_left
            · (intro wq; go_simp; try with_reducible rfl)
            simp only [Act.put, List.setIfInBounds_toArray, List.set_cons_zero, List.set_cons_succ]
            refine wpF_take 9 (v := ?_) rfl (by kernel_rfl) (by kernel_rfl) (by kernel_rfl) (fun _ _ _ h => h) hT0 (by rfl) ?_ ?_
            rotate_left
            · (intro wq; go_simp; try with_reducible rfl)
            simp only [Act.put, List.setIfInBounds_toArray, List.set_cons_zero, List.set_cons_succ]
            refine wpF_exec 7 rfl (by kernel_rfl) (by rfl) ?_
            intro K hK
            refine op_append (m := l.length - (i + 1)) TPair rfl rfl hF.drew rfl (hf2.ext (Ext.drew no w7) (fun _ _ h => h)) (by rw [rows_length kPair, List.length_drop]) (onePair _) (by unfold maxLen; omega) (by omega) (by show B ≤ w7.heap.size; omega) ?_
            intro a4 c4 w8 hp4
            have xx := (Ext.drew (blk a2) w7).comp hp4.ext
            have nx : ¬ blk a2 x := by rintro ⟨ad, h, hb⟩; have := (hF.base ad h).1; omega
            have hX8 := hX.ext (by simp) xx nx
            have hW8 := hW.trans xx (fun k hk => by rintro ⟨ad, h, hb⟩; have := (hF.base ad h).1; omega)
            have ho8 := hp4.own
            have hO8 := hO.ext (by simp) xx (by rintro ⟨ad, h, hb⟩; have := (hF.base ad h).1; omega)
            obtain ⟨nn, hnn⟩ : ∃ nn, nn = i + (l.length - (i + 1)) := ⟨_, rfl⟩
            rw [← hnn] at ho8 ⊢
            have Hnn := Lib.hid hnn
            clear hnn hp4 xx nx
            have hT1 : ∀ k, looks [(2, fun z => z.cell? ⟨g, 0, none⟩ = some (.int .i64 2))] k (w8) := looks_all ⟨hO8.cell 0 _ rfl, trivial⟩
            refine hK _ _ (looks [(2, fun z => z.cell? ⟨g, 0, none⟩ = some (.int .i64 2))]) ⟨.inr (.inr (fun x h => h)), trivial⟩ hT1 ?_
            clear hK K
            try simp only [Act.put, List.setIfInBounds_toArray, List.set_cons_zero, List.set_cons_succ]
            refine wpF_take 10 (v := .pointer (some ⟨x, 2, none⟩)) rfl (by kernel_rfl) (by kernel_rfl) (by kernel_rfl) (fun _ _ _ h => h) hT1 (by rfl) (by intro wq; go_simp) ?_
            simp only [Act.put, List.setIfInBounds_toArray, List.set_cons_zero, List.set_cons_succ]
            refine wpF_exec 11 rfl (by kernel_rfl) (by rfl) ?_
            intro K hK
            have y2 := hX8.cell 2 _ rfl
            have yf := hX8.fr 2
            go_simp
            have hX9 := hX8.set 2 (.slice a4 nn c4) (by simp)
            have hx9 : Ext (just x) w8 (w8.setCell ⟨x, 2, none⟩ (.slice a4 nn c4)) := Ext.setCell _ _ _ rfl
            generalize w8.setCell ⟨x, 2, none⟩ (.slice a4 nn c4) = w9 at *
            have hT2 : ∀ k, looks [(2, fun z => True)] k (w9) := looks_all ⟨trivial, trivial⟩
            refine hK _ _ (looks [(2, fun z => True)]) ⟨.inr (.inl (by kernel_rfl)), trivial⟩ hT2 ?_
            clear hK K
            try simp only [Act.put, List.setIfInBounds_toArray, List.set_cons_zero, List.set_cons_succ]
            refine wpF_done (by kernel_rfl) ?_ _
            have hlen : nn = E.length := by have hnr : (Go.Esc.newRow (⟨2, k, v, true⟩ : ChangeR)).length = 0 := rfl; rw [Hnn.out, HR.out, List.length_append, List.length_append, List.length_take, List.length_drop, hnr]; omega
            have ho9 : Own w9 w.heap.size a4 2 E.length c4 (rows PairR.cells E) := by
              have q := (ho8.ext hx9 (fun ad ha e => by have e : ad.block = x := e; have := (ho8.base ad ha).1; omega)).mono hB2
              rw [← rows_append, ← HR.out, hlen] at q
              exact q
            rw [hlen] at hX9
            have hWX : Ext (just x) w w9 := (hW8.mono (fun _ _ h => h.elim)).comp hx9
            clear hlen hX8 hW8 ho8 hx9
            go_wp2_with fail
            go_end0
            exact ⟨rfl, a4, c4, hX9, ho9, hWX⟩
          · have d3 : ((str r.key).toList == (str k).toList) = false := beqStrF hk
            have HR := Lib.hid (show E = (l.take i ++ Go.Esc.newRow (⟨2, k, v, true⟩ : ChangeR)) ++ l.drop (i) by rw [HE.out]; unfold rowPut rowQ rowP; rw [← HP.out, hrm]; simp only; rw [if_neg hk])
            clear hk
            go_upto_region 8 with fail
            go_quiet (fail)
            have hxq := Ext.drewN no w6 nq
            generalize w6.drewN nq = w7 at *
            replace hW := hW.comp hxq
            replace hO := hO.ext (by simp) hxq (fun h => h)
            replace hX := hX.ext (by simp) hxq (fun h => h)
            replace hF := hF.ext hxq (fun _ _ h => h)
            replace hBs := Nat.le_trans hBs hxq.size
            clear hxq
            clear y0 q1 d3
            have q0 := hO.cell 0 _ rfl
            have x2 := hX.cell 2 _ rfl
            have xf := hX.fr 2
            have hcC : ∀ w, (Instr.sliceAt 32 (.slice (some ⟨b, off, none⟩) l.length lc) (some (.int .i64 (i : Int))) none none).run Try.prog w = .ok (.slice (cutAt (some ⟨b, off, none⟩) lc (i) 2) (l.length - (i)) (lc - (i))) w := fun w => run_cut_l TPair w (some ⟨b, off, none⟩) _ lc .i64 (i) (by omega)
            have hf2 : Rd w7 (cutAt (some ⟨b, off, none⟩) lc (i) 2) (rows PairR.cells (l.drop (i))) := by have q := (kvRd_no hr hW).cutAt lc (i) 2 (fun e => by rw [rows_length kPair]; exact Nat.mul_le_mul_right _ (by omega)); rwa [rows_drop kPair] at q
            go_upto_region 10 with fail
            refine wp_region_F [2] (looks [(2, fun z => z.cell? ⟨g, 0, none⟩ = some (.int .i64 2))]) (by kernel_rfl) ?_
            have hT0 : ∀ k, looks [(2, fun z => z.cell? ⟨g, 0, none⟩ = some (.int .i64 2))] k (w7.drew) := looks_all ⟨(hO.drew).cell 0 _ rfl, trivial⟩
            refine wpF_take 0 (v := ?_) rfl (by kernel_rfl) (by kernel_rfl) (by kernel_rfl) (fun _ _ _ h => h) hT0 (by rfl) ?_ ?_
            rotate_left
            · (intro wq; go_simp; try with_reducible rfl)
            simp only [Act.put, List.setIfInBounds_toArray, List.set_cons_zero, List.set_cons_succ]
            refine wpF_take 1 (v := ?_) rfl (by kernel_rfl) (by kernel_rfl) (by kernel_rfl) (fun _ _ _ h => h) hT0 (by rfl) ?_ ?_
            rotate_left
            · (intro wq; go_simp; try with_reducible rfl)
            simp only [Act.put, List.setIfInBounds_toArray, List.set_cons_zero, List.set_cons_succ]
            refine wpF_look 2 (v := .int .i64 2) rfl rfl (by kernel_rfl) (by kernel_rfl) (by kernel_rfl) (by kernel_rfl) (fun _ _ _ h => h) hT0 (by rfl) (fun w hS => by have hS : w.cell? ⟨g, 0, none⟩ = some (.int .i64 2) := hS; have q := hS; go_simp) ?_
            simp only [Act.put, List.setIfInBounds_toArray, List.set_cons_zero, List.set_cons_succ]
            refine wpF_take 3 (v := ?_) rfl (by kernel_rfl) (by kernel_rfl) (by kernel_rfl) (fun _ _ _ h => h) hT0 (by rfl) ?_ ?_
            rotate_left
            · (intro wq; go_simp; try with_reducible rfl)
            simp only [Act.put, List.setIfInBounds_toArray, List.set_cons_zero, List.set_cons_succ]
            refine wpF_take 4 (v := ?_) rfl (by kernel_rfl) (by kernel_rfl) (by kernel_rfl) (fun _ _ _ h => h) hT0 (by rfl) ?_ ?_
            rotate_left
            · (intro wq; go_simp; try with_reducible rfl)
            simp only [Act.put, List.setIfInBounds_toArray, List.set_cons_zero, List.set_cons_succ]
            refine wpF_take 5 (v := ?_) rfl (by kernel_rfl) (by kernel_rfl) (by kernel_rfl) (fun _ _ _ h => h) hT0 (by rfl) ?_ ?_
            rotate_left
            · (intro wq; go_simp; try with_reducible rfl)
            simp only [Act.put, List.setIfInBounds_toArray, List.set_cons_zero, List.set_cons_succ]
            refine wpF_take 6 (v := .slice (cutAt (some ⟨b, off, none⟩) lc (i) 2) (l.length - (i)) (lc - (i))) rfl (by kernel_rfl) (by kernel_rfl) (by kernel_rfl) (fun _ _ _ h => h) hT0 (by rfl) (by intro wq; go_simp) ?_
            simp only [Act.put, List.setIfInBounds_toArray, List.set_cons_zero, List.set_cons_succ]
            refine wpF_take 8 (v := ?_) rfl (by kernel_rfl) (by kernel_rfl) (by kernel_rfl) (fun _ _ _ h => h) hT0 (by rfl) ?_ ?_
            rotate_left
            · (intro wq; go_simp; try with_reducible rfl)
            simp only [Act.put, List.setIfInBounds_toArray, List.set_cons_zero, List.set_cons_succ]
            refine wpF_take 9 (v := ?_) rfl (by kernel_rfl) (by kernel_rfl) (by kernel_rfl) (fun _ _ _ h => h) hT0 (by rfl) ?_ ?_
            rotate_left
            · (intro wq; go_simp; try with_reducible rfl)
            simp only [Act.put, List.setIfInBounds_toArray, List.set_cons_zero, List.set_cons_succ]
            refine wpF_exec 7 rfl (by kernel_rfl) (by rfl) ?_
            intro K hK
            refine op_append (m := l.length - (i)) TPair rfl rfl hF.drew rfl (hf2.ext (Ext.drew no w7) (fun _ _ h => h)) (by rw [rows_length kPair, List.length_drop]) (onePair _) (by unfold maxLen; omega) (by omega) (by show B ≤ w7.heap.size; omega) ?_
            intro a4 c4 w8 hp4
            have xx := (Ext.drew (blk a2) w7).comp hp4.ext
            have nx : ¬ blk a2 x := by rintro ⟨ad, h, hb⟩; have := (hF.base ad h).1; omega
            have hX8 := hX.ext (by simp) xx nx
            have hW8 := hW.trans xx (fun k hk => by rintro ⟨ad, h, hb⟩; have := (hF.base ad h).1; omega)
            have ho8 := hp4.own
            have hO8 := hO.ext (by simp) xx (by rintro ⟨ad, h, hb⟩; have := (hF.base ad h).1; omega)
            obtain ⟨nn, hnn⟩ : ∃ nn, nn = i + (l.length - (i)) := ⟨_, rfl⟩
            rw [← hnn] at ho8 ⊢
            have Hnn := Lib.hid hnn
            clear hnn hp4 xx nx
            have hT1 : ∀ k, looks [(2, fun z => z.cell? ⟨g, 0, none⟩ = some (.int .i64 2))] k (w8) := looks_all ⟨hO8.cell 0 _ rfl, trivial⟩
            refine hK _ _ (looks [(2, fun z => z.cell? ⟨g, 0, none⟩ = some (.int .i64 2))]) ⟨.inr (.inr (fun x h => h)), trivial⟩ hT1 ?_
            clear hK K
            try simp only [Act.put, List.setIfInBounds_toArray, List.set_cons_zero, List.set_cons_succ]
            refine wpF_take 10 (v := .pointer (some ⟨x, 2, none⟩)) rfl (by kernel_rfl) (by kernel_rfl) (by kernel_rfl) (fun _ _ _ h => h) hT1 (by rfl) (by intro wq; go_simp) ?_
            simp only [Act.put, List.setIfInBounds_toArray, List.set_cons_zero, List.set_cons_succ]
            refine wpF_exec 11 rfl (by kernel_rfl) (by rfl) ?_
            intro K hK
            have y2 := hX8.cell 2 _ rfl
            have yf := hX8.fr 2
            go_simp
            have hX9 := hX8.set 2 (.slice a4 nn c4) (by simp)
            have hx9 : Ext (just x) w8 (w8.setCell ⟨x, 2, none⟩ (.slice a4 nn c4)) := Ext.setCell _ _ _ rfl
            generalize w8.setCell ⟨x, 2, none⟩ (.slice a4 nn c4) = w9 at *
            have hT2 : ∀ k, looks [(2, fun z => True)] k (w9) := looks_all ⟨trivial, trivial⟩
            refine hK _ _ (looks [(2, fun z => True)]) ⟨.inr (.inl (by kernel_rfl)), trivial⟩ hT2 ?_
            clear hK K
            try simp only [Act.put, List.setIfInBounds_toArray, List.set_cons_zero, List.set_cons_succ]
            refine wpF_done (by kernel_rfl) ?_ _
            have hlen : nn = E.length := by have hnr : (Go.Esc.newRow (⟨2, k, v, true⟩ : ChangeR)).length = 0 := rfl; rw [Hnn.out, HR.out, List.length_append, List.length_append, List.length_take, List.length_drop, hnr]; omega
            have ho9 : Own w9 w.heap.size a4 2 E.length c4 (rows PairR.cells E) := by
              have q := (ho8.ext hx9 (fun ad ha e => by have e : ad.block = x := e; have := (ho8.base ad ha).1; omega)).mono hB2
              rw [← rows_append, ← HR.out, hlen] at q
              exact q
            rw [hlen] at hX9
            have hWX : Ext (just x) w w9 := (hW8.mono (fun _ _ h => h.elim)).comp hx9
            clear hlen hX8 hW8 ho8 hx9
            go_wp2_with fail
            go_end0
            exact ⟨rfl, a4, c4, hX9, ho9, hWX⟩
        | false =>
          have z1 := hO.cell 1 _ rfl
          have z2 := hO.cell 2 _ rfl
          have hX1 : Rd (w5.alloc (.cells #[.string (str k), .string (str v)] 65)) (some ⟨w5.heap.size, 0, none⟩) (PairR.cells ⟨k, v⟩) := Rd.lit w5 #[.string (str k), .string (str v)] _ _
          go_wp2_with (at_builtin; refine wpList_append TPair rfl rfl rfl (ho1.alloc _) rfl hX1 rfl (one1Pair ⟨k, v⟩) ?c1 ?c2 ?c3 ?_)
          case c1 => unfold maxLen; omega
          case c2 => omega
          case c3 => first | omega | (simp; omega)
          intro a2 c2 w6 hp2
          have hF : Own w6 B a2 2 (i + 1) c2 (rows PairR.cells (l.take i ++ Go.Esc.newRow (⟨2, k, v, false⟩ : ChangeR))) := by have q := hp2.own; rw [rows_append]; exact q
          have xx := (Ext.alloc (blk a1) w5 (.cells #[.string (str k), .string (str v)] 65)).comp hp2.ext
          have nx : ∀ q, q < B → ¬ blk a1 q := fun q hq => by rintro ⟨ad, h, hb⟩; have := (ho1.base ad h).1; omega
          replace hX := hX.ext (by simp) xx (nx _ (by omega))
          replace hO := hO.ext (by simp) xx (nx _ (by omega))
          replace hW := hW.trans xx (fun k hk => nx k (by omega))
          replace hBs := Nat.le_trans hBs xx.size
          clear hp2 hX1 xx nx ho1 z1 z2 q3
          have hrr := kvRd_no hr hW
          have y0 : w6.cell? ⟨b, off + i * 2, none⟩ = some (.string (str r.key)) := rows_cell kPair hrr hrm 0 _ rfl
          clear hrr
          have q1 := hO.cell 1 _ rfl
          by_cases hk : r.key = k
          · have d3 : ((str r.key).toList == (str k).toList) = true := beqStrT hk
            have HR := Lib.hid (show E = (l.take i ++ Go.Esc.newRow (⟨2, k, v, false⟩ : ChangeR)) ++ l.drop (i + 1) by rw [HE.out]; unfold rowPut rowQ rowP; rw [← HP.out, hrm]; simp only; rw [if_pos hk])
            clear hk
            go_upto_region 8 with fail
            go_quiet (fail)
            have hxq := Ext.drewN no w6 nq
            generalize w6.drewN nq = w7 at *
            replace hW := hW.comp hxq
            replace hO := hO.ext (by simp) hxq (fun h => h)
            replace hX := hX.ext (by simp) hxq (fun h => h)
            replace hF := hF.ext hxq (fun _ _ h => h)
            replace hBs := Nat.le_trans hBs hxq.size
            clear hxq
            clear y0 q1 d3
            have q0 := hO.cell 0 _ rfl
            have x2 := hX.cell 2 _ rfl
            have xf := hX.fr 2
            have hcC : ∀ w, (Instr.sliceAt 32 (.slice (some ⟨b, off, none⟩) l.length lc) (some (.int .i64 ((i : Int) + 1))) none none).run Try.prog w = .ok (.slice (cutAt (some ⟨b, off, none⟩) lc (i + 1) 2) (l.length - (i + 1)) (lc - (i + 1))) w := fun w => run_cut_l TPair w (some ⟨b, off, none⟩) _ lc .i64 (i + 1) (by omega)
            have hf2 : Rd w7 (cutAt (some ⟨b, off, none⟩) lc (i + 1) 2) (rows PairR.cells (l.drop (i + 1))) := by have q := (kvRd_no hr hW).cutAt lc (i + 1) 2 (fun e => by rw [rows_length kPair]; exact Nat.mul_le_mul_right _ (by omega)); rwa [rows_drop kPair] at q
            go_upto_region 10 with fail
            refine wp_region_F [2] (looks [(2, fun z => z.cell? ⟨g, 0, none⟩ = some (.int .i64 2))]) (by kernel_rfl) ?_
            have hT0 : ∀ k, looks [(2, fun z => z.cell? ⟨g, 0, none⟩ = some (.int .i64 2))] k (w7.drew) := looks_all ⟨(hO.drew).cell 0 _ rfl, trivial⟩
            refine wpF_take 0 (v := ?_) rfl (by kernel_rfl) (by kernel_rfl) (by kernel_rfl) (fun _ _ _ h => h) hT0 (by rfl) ?_ ?_
            rotate_left
            · (intro wq; go_simp; try with_reducible rfl)
            simp only [Act.put, List.setIfInBounds_toArray, List.set_cons_zero, List.set_cons_succ]
            refine wpF_take 1 (v := ?_) rfl (by kernel_rfl) (by kernel_rfl) (by kernel_rfl) (fun _ _ _ h => h) hT0 (by rfl) ?_ ?_
            rotate_left
            · (intro wq; go_simp; try with_reducible rfl)
            simp only [Act.put, List.setIfInBounds_toArray, List.set_cons_zero, List.set_cons_succ]
            refine wpF_look 2 (v := .int .i64 2) rfl rfl (by kernel_rfl) (by kernel_rfl) (by kernel_rfl) (by kernel_rfl) (fun _ _ _ h => h) hT0 (by rfl) (fun w hS => by have hS : w.cell? ⟨g, 0, none⟩ = some (.int .i64 2) := hS; have q := hS; go_simp) ?_
            simp only [Act.put, List.setIfInBounds_toArray, List.set_cons_zero, List.set_cons_succ]
            refine wpF_take 3 (v := ?_) rfl (by kernel_rfl) (by kernel_rfl) (by kernel_rfl) (fun _ _ _ h => h) hT0 (by rfl) ?_ ?_
            rotate_left
            · (intro wq; go_simp; try with_reducible rfl)
            simp only [Act.put, List.setIfInBounds_toArray, List.set_cons_zero, List.set_cons_succ]
            refine wpF_take 4 (v := ?_) rfl (by kernel_rfl) (by kernel_rfl) (by kernel_rfl) (fun _ _ _ h => h) hT0 (by rfl) ?_ ?_
            rotate_left
            · (intro wq; go_simp; try with_reducible rfl)
            simp only [Act.put, List.setIfInBounds_toArray, List.set_cons_zero, List.set_cons_succ]
            refine wpF_take 5 (v := ?_) rfl (by kernel_rfl) (by kernel_rfl) (by kernel_rfl) (fun _ _ _ h => h) hT0 (by rfl) ?_ ?_
            rotate_left
            · (intro wq; go_simp; try with_reducible rfl)
            simp only [Act.put, List.setIfInBounds_toArray, List.set_cons_zero, List.set_cons_succ]
            refine wpF_take 6 (v := .slice (cutAt (some ⟨b, off, none⟩) lc (i + 1) 2) (l.length - (i + 1)) (lc - (i + 1))) rfl (by kernel_rfl) (by kernel_rfl) (by kernel_rfl) (fun _ _ _ h => h) hT0 (by rfl) (by intro wq; go_simp) ?_
            simp only [Act.put, List.setIfInBounds_toArray, List.set_cons_zero, List.set_cons_succ]
            refine wpF_take 8 (v := ?_) rfl (by kernel_rfl) (by kernel_rfl) (by kernel_rfl) (fun _ _ _ h => h) hT0 (by rfl) ?_ ?_
            rotate_left
            · (intro wq; go_simp; try with_reducible rfl)
            simp only [Act.put, List.setIfInBounds_toArray, List.set_cons_zero, List.set_cons_succ]
            refine wpF_take 9 (v := ?_) rfl (by kernel_rfl) (by kernel_rfl) (by kernel_rfl) (fun _ _ _ h => h) hT0 (by rfl) ?_ ?_
            rotate_left
            · (intro wq; go_simp; try with_reducible rfl)
            simp only [Act.put, List.setIfInBounds_toArray, List.set_cons_zero, List.set_cons_succ]
            refine wpF_exec 7 rfl (by kernel_rfl) (by rfl) ?_
            intro K hK
            refine op_append (m := l.length - (i + 1)) TPair rfl rfl hF.drew rfl (hf2.ext (Ext.drew no w7) (fun _ _ h => h)) (by rw [rows_length kPair, List.length_drop]) (onePair _) (by unfold maxLen; omega) (by omega) (by show B ≤ w7.heap.size; omega) ?_
            intro a4 c4 w8 hp4
            have xx := (Ext.drew (blk a2) w7).comp hp4.ext
            have nx : ¬ blk a2 x := by rintro ⟨ad, h, hb⟩; have := (hF.base ad h).1; omega
            have hX8 := hX.ext (by simp) xx nx
            have hW8 := hW.trans xx (fun k hk => by rintro ⟨ad, h, hb⟩; have := (hF.base ad h).1; omega)
            have ho8 := hp4.own
            have hO8 := hO.ext (by simp) xx (by rintro ⟨ad, h, hb⟩; have := (hF.base ad h).1; omega)
            obtain ⟨nn, hnn⟩ : ∃ nn, nn = (i + 1) + (l.length - (i + 1)) := ⟨_, rfl⟩
            rw [← hnn] at ho8 ⊢
            have Hnn := Lib.hid hnn
            clear hnn hp4 xx nx
            have hT1 : ∀ k, looks [(2, fun z => z.cell? ⟨g, 0, none⟩ = some (.int .i64 2))] k (w8) := looks_all ⟨hO8.cell 0 _ rfl, trivial⟩
            refine hK _ _ (looks [(2, fun z => z.cell? ⟨g, 0, none⟩ = some (.int .i64 2))]) ⟨.inr (.inr (fun x h => h)), trivial⟩ hT1 ?_
            clear hK K
            try simp only [Act.put, List.setIfInBounds_toArray, List.set_cons_zero, List.set_cons_succ]
            refine wpF_take 10 (v := .pointer (some ⟨x, 2, none⟩)) rfl (by kernel_rfl) (by kernel_rfl) (by kernel_rfl) (fun _ _ _ h => h) hT1 (by rfl) (by intro wq; go_simp) ?_
            simp only [Act.put, List.setIfInBounds_toArray, List.set_cons_zero, List.set_cons_succ]
            refine wpF_exec 11 rfl (by kernel_rfl) (by rfl) ?_
            intro K hK
            have y2 := hX8.cell 2 _ rfl
            have yf := hX8.fr 2
            go_simp
            have hX9 := hX8.set 2 (.slice a4 nn c4) (by simp)
            have hx9 : Ext (just x) w8 (w8.setCell ⟨x, 2, none⟩ (.slice a4 nn c4)) := Ext.setCell _ _ _ rfl
            generalize w8.setCell ⟨x, 2, none⟩ (.slice a4 nn c4) = w9 at *
            have hT2 : ∀ k, looks [(2, fun z => True)] k (w9) := looks_all ⟨trivial, trivial⟩
            refine hK _ _ (looks [(2, fun z => True)]) ⟨.inr (.inl (by kernel_rfl)), trivial⟩ hT2 ?_
            clear hK K
            try simp only [Act.put, List.setIfInBounds_toArray, List.set_cons_zero, List.set_cons_succ]
            refine wpF_done (by kernel_rfl) ?_ _
            have hlen : nn = E.length := by have hnr : (Go.Esc.newRow (⟨2, k, v, false⟩ : ChangeR)).length = 1 := rfl; rw [Hnn.out, HR.out, List.length_append, List.length_append, List.length_take, List.length_drop, hnr]; omega
            have ho9 : Own w9 w.heap.size a4 2 E.length c4 (rows PairR.cells E) := by
              have q := (ho8.ext hx9 (fun ad ha e => by have e : ad.block = x := e; have := (ho8.base ad ha).1; omega)).mono hB2
              rw [← rows_append, ← HR.out, hlen] at q
              exact q
            rw [hlen] at hX9
            have hWX : Ext (just x) w w9 := (hW8.mono (fun _ _ h => h.elim)).comp hx9
            clear hlen hX8 hW8 ho8 hx9
            go_wp2_with fail
            go_end0
            exact ⟨rfl, a4, c4, hX9, ho9, hWX⟩
          · have d3 : ((str r.key).toList == (str k).toList) = false := beqStrF hk
            have HR := Lib.hid (show E = (l.take i ++ Go.Esc.newRow (⟨2, k, v, false⟩ : ChangeR)) ++ l.drop (i) by rw [HE.out]; unfold rowPut rowQ rowP; rw [← HP.out, hrm]; simp only; rw [if_neg hk])
            clear hk
            go_upto_region 8 with fail
            go_quiet (fail)
            have hxq := Ext.drewN no w6 nq
            generalize w6.drewN nq = w7 at *
            replace hW := hW.comp hxq
            replace hO := hO.ext (by simp) hxq (fun h => h)
            replace hX := hX.ext (by simp) hxq (fun h => h)
            replace hF := hF.ext hxq (fun _ _ h => h)
            replace hBs := Nat.le_trans hBs hxq.size
            clear hxq
            clear y0 q1 d3
            have q0 := hO.cell 0 _ rfl
            have x2 := hX.cell 2 _ rfl
            have xf := hX.fr 2
            have hcC : ∀ w, (Instr.sliceAt 32 (.slice (some ⟨b, off, none⟩) l.length lc) (some (.int .i64 (i : Int))) none none).run Try.prog w = .ok (.slice (cutAt (some ⟨b, off, none⟩) lc (i) 2) (l.length - (i)) (lc - (i))) w := fun w => run_cut_l TPair w (some ⟨b, off, none⟩) _ lc .i64 (i) (by omega)
            have hf2 : Rd w7 (cutAt (some ⟨b, off, none⟩) lc (i) 2) (rows PairR.cells (l.drop (i))) := by have q := (kvRd_no hr hW).cutAt lc (i) 2 (fun e => by rw [rows_length kPair]; exact Nat.mul_le_mul_right _ (by omega)); rwa [rows_drop kPair] at q
            go_upto_region 10 with fail
            refine wp_region_F [2] (looks [(2, fun z => z.cell? ⟨g, 0, none⟩ = some (.int .i64 2))]) (by kernel_rfl) ?_
            have hT0 : ∀ k, looks [(2, fun z => z.cell? ⟨g, 0, none⟩ = some (.int .i64 2))] k (w7.drew) := looks_all ⟨(hO.drew).cell 0 _ rfl, trivial⟩
            refine wpF_take 0 (v := ?_) rfl (by kernel_rfl) (by kernel_rfl) (by kernel_rfl) (fun _ _ _ h => h) hT0 (by rfl) ?_ ?_
            rotate_left
            · (intro wq; go_simp; try with_reducible rfl)
            simp only [Act.put, List.setIfInBounds_toArray, List.set_cons_zero, List.set_cons_succ]
            refine wpF_take 1 (v := ?_) rfl (by kernel_rfl) (by kernel_rfl) (by kernel_rfl) (fun _ _ _ h => h) hT0 (by rfl) ?_ ?_
            rotate_left
            · (intro wq; go_simp; try with_reducible rfl)
            simp only [Act.put, List.setIfInBounds_toArray, List.set_cons_zero, List.set_cons_succ]
            refine wpF_look 2 (v := .int .i64 2) rfl rfl (by kernel_rfl) (by kernel_rfl) (by kernel_rfl) (by kernel_rfl) (fun _ _ _ h => h) hT0 (by rfl) (fun w hS => by have hS : w.cell? ⟨g, 0, none⟩ = some (.int .i64 2) := hS; have q := hS; go_simp) ?_
            simp only [Act.put, List.setIfInBounds_toArray, List.set_cons_zero, List.set_cons_succ]
            refine wpF_take 3 (v := ?_) rfl (by kernel_rfl) (by kernel_rfl) (by kernel_rfl) (fun _ _ _ h => h) hT0 (by rfl) ?_ ?_
            rotate_left
            · (intro wq; go_simp; try with_reducible rfl)
            simp only [Act.put, List.setIfInBounds_toArray, List.set_cons_zero, List.set_cons_succ]
            refine wpF_take 4 (v := ?_) rfl (by kernel_rfl) (by kernel_rfl) (by kernel_rfl) (fun _ _ _ h => h) hT0 (by rfl) ?_ ?_
            rotate_left
            · (intro wq; go_simp; try with_reducible rfl)
            simp only [Act.put, List.setIfInBounds_toArray, List.set_cons_zero, List.set_cons_succ]
            refine wpF_take 5 (v := ?_) rfl (by kernel_rfl) (by kernel_rfl) (by kernel_rfl) (fun _ _ _ h => h) hT0 (by rfl) ?_ ?_
            rotate_left
            · (intro wq; go_simp; try with_reducible rfl)
            simp only [Act.put, List.setIfInBounds_toArray, List.set_cons_zero, List.set_cons_succ]
            refine wpF_take 6 (v := .slice (cutAt (some ⟨b, off, none⟩) lc (i) 2) (l.length - (i)) (lc - (i))) rfl (by kernel_rfl) (by kernel_rfl) (by kernel_rfl) (fun _ _ _ h => h) hT0 (by rfl) (by intro wq; go_simp) ?_
            simp only [Act.put, List.setIfInBounds_toArray, List.set_cons_zero, List.set_cons_succ]
            refine wpF_take 8 (v := ?_) rfl (by kernel_rfl) (by kernel_rfl) (by kernel_rfl) (fun _ _ _ h => h) hT0 (by rfl) ?_ ?_
            rotate_left
            · (intro wq; go_simp; try with_reducible rfl)
            simp only [Act.put, List.setIfInBounds_toArray, List.set_cons_zero, List.set_cons_succ]
            refine wpF_take 9 (v := ?_) rfl (by kernel_rfl) (by kernel_rfl) (by kernel_rfl) (fun _ _ _ h => h) hT0 (by rfl) ?_ ?_
            rotate_left
            · (intro wq; go_simp; try with_reducible rfl)
            simp only [Act.put, List.setIfInBounds_toArray, List.set_cons_zero, List.set_cons_succ]
            refine wpF_exec 7 rfl (by kernel_rfl) (by rfl) ?_
            intro K hK
            refine op_append (m := l.length - (i)) TPair rfl rfl hF.drew rfl (hf2.ext (Ext.drew no w7) (fun _ _ h => h)) (by rw [rows_length kPair, List.length_drop]) (onePair _) (by unfold maxLen; omega) (by omega) (by show B ≤ w7.heap.size; omega) ?_
            intro a4 c4 w8 hp4
            have xx := (Ext.drew (blk a2) w7).comp hp4.ext
            have nx : ¬ blk a2 x := by rintro ⟨ad, h, hb⟩; have := (hF.base ad h).1; omega
            have hX8 := hX.ext (by simp) xx nx
            have hW8 := hW.trans xx (fun k hk => by rintro ⟨ad, h, hb⟩; have := (hF.base ad h).1; omega)
            have ho8 := hp4.own
            have hO8 := hO.ext (by simp) xx (by rintro ⟨ad, h, hb⟩; have := (hF.base ad h).1; omega)
            obtain ⟨nn, hnn⟩ : ∃ nn, nn = (i + 1) + (l.length - (i)) := ⟨_, rfl⟩
            rw [← hnn] at ho8 ⊢
            have Hnn := Lib.hid hnn
            clear hnn hp4 xx nx
            have hT1 : ∀ k, looks [(2, fun z => z.cell? ⟨g, 0, none⟩ = some (.int .i64 2))] k (w8) := looks_all ⟨hO8.cell 0 _ rfl, trivial⟩
            refine hK _ _ (looks [(2, fun z => z.cell? ⟨g, 0, none⟩ = some (.int .i64 2))]) ⟨.inr (.inr (fun x h => h)), trivial⟩ hT1 ?_
            clear hK K
            try simp only [Act.put, List.setIfInBounds_toArray, List.set_cons_zero, List.set_cons_succ]
            refine wpF_take 10 (v := .pointer (some ⟨x, 2, none⟩)) rfl (by kernel_rfl) (by kernel_rfl) (by kernel_rfl) (fun _ _ _ h => h) hT1 (by rfl) (by intro wq; go_simp) ?_
            simp only [Act.put, List.setIfInBounds_toArray, List.set_cons_zero, List.set_cons_succ]
            refine wpF_exec 11 rfl (by kernel_rfl) (by rfl) ?_
            intro K hK
            have y2 := hX8.cell 2 _ rfl
            have yf := hX8.fr 2
            go_simp
            have hX9 := hX8.set 2 (.slice a4 nn c4) (by simp)
            have hx9 : Ext (just x) w8 (w8.setCell ⟨x, 2, none⟩ (.slice a4 nn c4)) := Ext.setCell _ _ _ rfl
            generalize w8.setCell ⟨x, 2, none⟩ (.slice a4 nn c4) = w9 at *
            have hT2 : ∀ k, looks [(2, fun z => True)] k (w9) := looks_all ⟨trivial, trivial⟩
            refine hK _ _ (looks [(2, fun z => True)]) ⟨.inr (.inl (by kernel_rfl)), trivial⟩ hT2 ?_
            clear hK K
            try simp only [Act.put, List.setIfInBounds_toArray, List.set_cons_zero, List.set_cons_succ]
            refine wpF_done (by kernel_rfl) ?_ _
            have hlen : nn = E.length := by have hnr : (Go.Esc.newRow (⟨2, k, v, false⟩ : ChangeR)).length = 1 := rfl; rw [Hnn.out, HR.out, List.length_append, List.length_append, List.length_take, List.length_drop, hnr]; omega
            have ho9 : Own w9 w.heap.size a4 2 E.length c4 (rows PairR.cells E) := by
              have q := (ho8.ext hx9 (fun ad ha e => by have e : ad.block = x := e; have := (ho8.base ad ha).1; omega)).mono hB2
              rw [← rows_append, ← HR.out, hlen] at q
              exact q
            rw [hlen] at hX9
            have hWX : Ext (just x) w w9 := (hW8.mono (fun _ _ h => h.elim)).comp hx9
            clear hlen hX8 hW8 ho8 hx9
            go_wp2_with fail
            go_end0
            exact ⟨rfl, a4, c4, hX9, ho9, hWX⟩
      · have d1 : decide (i < l.length) = false := decF hPn
        go_upto_region 3 with fail
        go_quiet (fail)
        have hxq := Ext.drewN no wr nq
        generalize wr.drewN nq = wz at *
        replace hW := hW.comp hxq
        replace hO := hO.ext (by simp) hxq (fun h => h)
        replace hX := hX.ext (by simp) hxq (fun h => h)
        clear hxq
        clear q1
        have hA0 : Ext no w (wz.alloc (.cells #[] 65)) := hW.comp (Ext.alloc no _ _)
        have hf : Rd (wz.alloc (.cells #[] 65)) la (rows PairR.cells (l.take i)) := by have q := (kvRd_no hr hA0).take (i * 2); rwa [rows_take kPair] at q
        obtain ⟨B, hB⟩ : ∃ B, B = wz.heap.size := ⟨_, rfl⟩
        have hz : Own (wz.alloc (.cells #[] 65)) B (some ⟨wz.heap.size, 0, none⟩) 2 0 0 [] := by rw [hB]; exact Own.fresh wz _ _ _ _ _ _ _ _ (Nat.le_refl _) (by simp) (Nat.le_refl _) (Nat.zero_le _) (by simp) (by simp) (.inl (Nat.le_refl _))
        have hcA : ∀ w, (Instr.sliceAt 32 (.slice la l.length lc) none (some (.int .i64 (i : Int))) none).run Try.prog w = .ok (.slice la i lc) w := fun w => run_cut_h TPair w la _ lc .i64 i (by omega)
        have hB1 : g < B := by have := hO.lt (by simp); omega
        have hB2 : w.heap.size ≤ B := by omega
        have hB3 : B ≤ wz.heap.size := by omega
        have hB4 : wz.heap.size ≤ B := by omega
        clear hB
        go_wp2_with (at_builtin; refine wpList_append TPair rfl rfl rfl hz rfl hf (by rw [rows_length kPair, List.length_take]; congr 1; omega) (onePair _) ?c1 ?c2 (by simp; omega) ?_)
        case c1 => unfold maxLen; omega
        case c2 => omega
        intro a1 c1 w5 hp1
        try rw [Nat.zero_add]
        have ho1 := hp1.own
        rw [Nat.zero_add, List.nil_append] at ho1
        have hxA : Ext no wz w5 := (Ext.alloc no _ _).trans hp1.ext (fun k hk => by rintro ⟨ad, h, hb⟩; cases h; simp only at hb; omega)
        have hBs : B ≤ w5.heap.size := by have := hxA.size; omega
        clear hp1 hz hf hcA hB3 hB4 hA0
        replace hW := hW.comp hxA
        replace hO := hO.ext (by simp) hxA (fun h => h)
        replace hX := hX.ext (by simp) hxA (fun h => h)
        clear hxA
        have q3 := hO.cell 3 _ rfl
        cases d with
        | true =>
          have hF : Own w5 B a1 2 i c1 (rows PairR.cells (l.take i ++ Go.Esc.newRow (⟨2, k, v, true⟩ : ChangeR))) := by have e : Go.Esc.newRow (⟨2, k, v, true⟩ : ChangeR) = [] := rfl; rw [e, List.append_nil]; exact ho1
          clear ho1
          go_upto_region 8 with fail
          clear q3
          generalize w5 = w6 at *
          obtain ⟨a2, ha2⟩ : ∃ a2, a2 = a1 := ⟨_, rfl⟩
          obtain ⟨c2, hc2⟩ : ∃ c2, c2 = c1 := ⟨_, rfl⟩
          rw [← ha2, ← hc2] at hF ⊢
          clear ha2 hc2
          have HR := Lib.hid (show E = (l.take i ++ Go.Esc.newRow (⟨2, k, v, true⟩ : ChangeR)) ++ l.drop (i) by rw [HE.out]; unfold rowPut rowQ rowP; rw [← HP.out, List.getElem?_eq_none (by omega)])
          go_upto_region 8 with fail
          go_quiet (fail)
          have hxq := Ext.drewN no w6 nq
          generalize w6.drewN nq = w7 at *
          replace hW := hW.comp hxq
          replace hO := hO.ext (by simp) hxq (fun h => h)
          replace hX := hX.ext (by simp) hxq (fun h => h)
          replace hF := hF.ext hxq (fun _ _ h => h)
          replace hBs := Nat.le_trans hBs hxq.size
          clear hxq
          have q0 := hO.cell 0 _ rfl
          have x2 := hX.cell 2 _ rfl
          have xf := hX.fr 2
          have hcC : ∀ w, (Instr.sliceAt 32 (.slice la l.length lc) (some (.int .i64 (i : Int))) none none).run Try.prog w = .ok (.slice (cutAt la lc (i) 2) (l.length - (i)) (lc - (i))) w := fun w => run_cut_l TPair w la _ lc .i64 (i) (by omega)
          have hf2 : Rd w7 (cutAt la lc (i) 2) (rows PairR.cells (l.drop (i))) := by have q := (kvRd_no hr hW).cutAt lc (i) 2 (fun e => by rw [rows_length kPair]; exact Nat.mul_le_mul_right _ (by omega)); rwa [rows_drop kPair] at q
          go_upto_region 10 with fail
          refine wp_region_F [2] (looks [(2, fun z => z.cell? ⟨g, 0, none⟩ = some (.int .i64 2))]) (by kernel_rfl) ?_
          have hT0 : ∀ k, looks [(2, fun z => z.cell? ⟨g, 0, none⟩ = some (.int .i64 2))] k (w7.drew) := looks_all ⟨(hO.drew).cell 0 _ rfl, trivial⟩
          refine wpF_take 0 (v := ?_) rfl (by kernel_rfl) (by kernel_rfl) (by kernel_rfl) (fun _ _ _ h => h) hT0 (by rfl) ?_ ?_
          rotate_left
          · (intro wq; go_simp; try with_reducible rfl)
          simp only [Act.put, List.setIfInBounds_toArray, List.set_cons_zero, List.set_cons_succ]
          refine wpF_take 1 (v := ?_) rfl (by kernel_rfl) (by kernel_rfl) (by kernel_rfl) (fun _ _ _ h => h) hT0 (by rfl) ?_ ?_
          rotate_left
          · (intro wq; go_simp; try with_reducible rfl)
          simp only [Act.put, List.setIfInBounds_toArray, List.set_cons_zero, List.set_cons_succ]
          refine wpF_look 2 (v := .int .i64 2) rfl rfl (by kernel_rfl) (by kernel_rfl) (by kernel_rfl) (by kernel_rfl) (fun _ _ _ h => h) hT0 (by rfl) (fun w hS => by have hS : w.cell? ⟨g, 0, none⟩ = some (.int .i64 2) := hS; have q := hS; go_simp) ?_
          simp only [Act.put, List.setIfInBounds_toArray, List.set_cons_zero, List.set_cons_succ]
          refine wpF_take 3 (v := ?_) rfl (by kernel_rfl) (by kernel_rfl) (by kernel_rfl) (fun _ _ _ h => h) hT0 (by rfl) ?_ ?_
          rotate_left
          · (intro wq; go_simp; try with_reducible rfl)
          simp only [Act.put, List.setIfInBounds_toArray, List.set_cons_zero, List.set_cons_succ]
          refine wpF_take 4 (v := ?_) rfl (by kernel_rfl) (by kernel_rfl) (by kernel_rfl) (fun _ _ _ h => h) hT0 (by rfl) ?_ ?_
          rotate_left
          · (intro wq; go_simp; try with_reducible rfl)
          simp only [Act.put, List.setIfInBounds_toArray, List.set_cons_zero, List.set_cons_succ]
          refine wpF_take 5 (v := ?_) rfl (by kernel_rfl) (by kernel_rfl) (by kernel_rfl) (fun _ _ _ h => h) hT0 (by rfl) ?_ ?_
          rotate_left
          · (intro wq; go_simp; try with_reducible rfl)
          simp only [Act.put, List.setIfInBounds_toArray, List.set_cons_zero, List.set_cons_succ]
          refine wpF_take 6 (v := .slice (cutAt la lc (i) 2) (l.length - (i)) (lc - (i))) rfl (by kernel_rfl) (by kernel_rfl) (by kernel_rfl) (fun _ _ _ h => h) hT0 (by rfl) (by intro wq; go_simp) ?_
          simp only [Act.put, List.setIfInBounds_toArray, List.set_cons_zero, List.set_cons_succ]
          refine wpF_take 8 (v := ?_) rfl (by kernel_rfl) (by kernel_rfl) (by kernel_rfl) (fun _ _ _ h => h) hT0 (by rfl) ?_ ?_
          rotate_left
          · (intro wq; go_simp; try with_reducible rfl)
          simp only [Act.put, List.setIfInBounds_toArray, List.set_cons_zero, List.set_cons_succ]
          refine wpF_take 9 (v := ?_) rfl (by kernel_rfl) (by kernel_rfl) (by kernel_rfl) (fun _ _ _ h => h) hT0 (by rfl) ?_ ?_
          rotate_left
          · (intro wq; go_simp; try with_reducible rfl)
          simp only [Act.put, List.setIfInBounds_toArray, List.set_cons_zero, List.set_cons_succ]
          refine wpF_exec 7 rfl (by kernel_rfl) (by rfl) ?_
          intro K hK
          refine op_append (m := l.length - (i)) TPair rfl rfl hF.drew rfl (hf2.ext (Ext.drew no w7) (fun _ _ h => h)) (by rw [rows_length kPair, List.length_drop]) (onePair _) (by unfold maxLen; omega) (by omega) (by show B ≤ w7.heap.size; omega) ?_
          intro a4 c4 w8 hp4
          have xx := (Ext.drew (blk a2) w7).comp hp4.ext
          have nx : ¬ blk a2 x := by rintro ⟨ad, h, hb⟩; have := (hF.base ad h).1; omega
          have hX8 := hX.ext (by simp) xx nx
          have hW8 := hW.trans xx (fun k hk => by rintro ⟨ad, h, hb⟩; have := (hF.base ad h).1; omega)
          have ho8 := hp4.own
          have hO8 := hO.ext (by simp) xx (by rintro ⟨ad, h, hb⟩; have := (hF.base ad h).1; omega)
          obtain ⟨nn, hnn⟩ : ∃ nn, nn = i + (l.length - (i)) := ⟨_, rfl⟩
          rw [← hnn] at ho8 ⊢
          have Hnn := Lib.hid hnn
          clear hnn hp4 xx nx
          have hT1 : ∀ k, looks [(2, fun z => z.cell? ⟨g, 0, none⟩ = some (.int .i64 2))] k (w8) := looks_all ⟨hO8.cell 0 _ rfl, trivial⟩
          refine hK _ _ (looks [(2, fun z => z.cell? ⟨g, 0, none⟩ = some (.int .i64 2))]) ⟨.inr (.inr (fun x h => h)), trivial⟩ hT1 ?_
          clear hK K
          try simp only [Act.put, List.setIfInBounds_toArray, List.set_cons_zero, List.set_cons_succ]
          refine wpF_take 10 (v := .pointer (some ⟨x, 2, none⟩)) rfl (by kernel_rfl) (by kernel_rfl) (by kernel_rfl) (fun _ _ _ h => h) hT1 (by rfl) (by intro wq; go_simp) ?_
          simp only [Act.put, List.setIfInBounds_toArray, List.set_cons_zero, List.set_cons_succ]
          refine wpF_exec 11 rfl (by kernel_rfl) (by rfl) ?_
          intro K hK
          have y2 := hX8.cell 2 _ rfl
          have yf := hX8.fr 2
          go_simp
          have hX9 := hX8.set 2 (.slice a4 nn c4) (by simp)
          have hx9 : Ext (just x) w8 (w8.setCell ⟨x, 2, none⟩ (.slice a4 nn c4)) := Ext.setCell _ _ _ rfl
          generalize w8.setCell ⟨x, 2, none⟩ (.slice a4 nn c4) = w9 at *
          have hT2 : ∀ k, looks [(2, fun z => True)] k (w9) := looks_all ⟨trivial, trivial⟩
          refine hK _ _ (looks [(2, fun z => True)]) ⟨.inr (.inl (by kernel_rfl)), trivial⟩ hT2 ?_
          clear hK K
          try simp only [Act.put, List.setIfInBounds_toArray, List.set_cons_zero, List.set_cons_succ]
          refine wpF_done (by kernel_rfl) ?_ _
          have hlen : nn = E.length := by have hnr : (Go.Esc.newRow (⟨2, k, v, true⟩ : ChangeR)).length = 0 := rfl; rw [Hnn.out, HR.out, List.length_append, List.length_append, List.length_take, List.length_drop, hnr]; omega
          have ho9 : Own w9 w.heap.size a4 2 E.length c4 (rows PairR.cells E) := by
            have q := (ho8.ext hx9 (fun ad ha e => by have e : ad.block = x := e; have := (ho8.base ad ha).1; omega)).mono hB2
            rw [← rows_append, ← HR.out, hlen] at q
            exact q
          rw [hlen] at hX9
          have hWX : Ext (just x) w w9 := (hW8.mono (fun _ _ h => h.elim)).comp hx9
          clear hlen hX8 hW8 ho8 hx9
          go_wp2_with fail
          go_end0
          exact ⟨rfl, a4, c4, hX9, ho9, hWX⟩
        | false =>
          have z1 := hO.cell 1 _ rfl
          have z2 := hO.cell 2 _ rfl
          have hX1 : Rd (w5.alloc (.cells #[.string (str k), .string (str v)] 65)) (some ⟨w5.heap.size, 0, none⟩) (PairR.cells ⟨k, v⟩) := Rd.lit w5 #[.string (str k), .string (str v)] _ _
          go_wp2_with (at_builtin; refine wpList_append TPair rfl rfl rfl (ho1.alloc _) rfl hX1 rfl (one1Pair ⟨k, v⟩) ?c1 ?c2 ?c3 ?_)
          case c1 => unfold maxLen; omega
          case c2 => omega
          case c3 => first | omega | (simp; omega)
          intro a2 c2 w6 hp2
          have hF : Own w6 B a2 2 (i + 1) c2 (rows PairR.cells (l.take i ++ Go.Esc.newRow (⟨2, k, v, false⟩ : ChangeR))) := by have q := hp2.own; rw [rows_append]; exact q
          have xx := (Ext.alloc (blk a1) w5 (.cells #[.string (str k), .string (str v)] 65)).comp hp2.ext
          have nx : ∀ q, q < B → ¬ blk a1 q := fun q hq => by rintro ⟨ad, h, hb⟩; have := (ho1.base ad h).1; omega
          replace hX := hX.ext (by simp) xx (nx _ (by omega))
          replace hO := hO.ext (by simp) xx (nx _ (by omega))
          replace hW := hW.trans xx (fun k hk => nx k (by omega))
          replace hBs := Nat.le_trans hBs xx.size
          clear hp2 hX1 xx nx ho1 z1 z2 q3
          have HR := Lib.hid (show E = (l.take i ++ Go.Esc.newRow (⟨2, k, v, false⟩ : ChangeR)) ++ l.drop (i) by rw [HE.out]; unfold rowPut rowQ rowP; rw [← HP.out, List.getElem?_eq_none (by omega)])
          go_upto_region 8 with fail
          go_quiet (fail)
          have hxq := Ext.drewN no w6 nq
          generalize w6.drewN nq = w7 at *
          replace hW := hW.comp hxq
          replace hO := hO.ext (by simp) hxq (fun h => h)
          replace hX := hX.ext (by simp) hxq (fun h => h)
          replace hF := hF.ext hxq (fun _ _ h => h)
          replace hBs := Nat.le_trans hBs hxq.size
          clear hxq
          have q0 := hO.cell 0 _ rfl
          have x2 := hX.cell 2 _ rfl
          have xf := hX.fr 2
          have hcC : ∀ w, (Instr.sliceAt 32 (.slice la l.length lc) (some (.int .i64 (i : Int))) none none).run Try.prog w = .ok (.slice (cutAt la lc (i) 2) (l.length - (i)) (lc - (i))) w := fun w => run_cut_l TPair w la _ lc .i64 (i) (by omega)
          have hf2 : Rd w7 (cutAt la lc (i) 2) (rows PairR.cells (l.drop (i))) := by have q := (kvRd_no hr hW).cutAt lc (i) 2 (fun e => by rw [rows_length kPair]; exact Nat.mul_le_mul_right _ (by omega)); rwa [rows_drop kPair] at q
          go_upto_region 10 with fail
          refine wp_region_F [2] (looks [(2, fun z => z.cell? ⟨g, 0, none⟩ = some (.int .i64 2))]) (by kernel_rfl) ?_
          have hT0 : ∀ k, looks [(2, fun z => z.cell? ⟨g, 0, none⟩ = some (.int .i64 2))] k (w7.drew) := looks_all ⟨(hO.drew).cell 0 _ rfl, trivial⟩
          refine wpF_take 0 (v := ?_) rfl (by kernel_rfl) (by kernel_rfl) (by kernel_rfl) (fun _ _ _ h => h) hT0 (by rfl) ?_ ?_
          rotate_left
          · (intro wq; go_simp; try with_reducible rfl)
          simp only [Act.put, List.setIfInBounds_toArray, List.set_cons_zero, List.set_cons_succ]
          refine wpF_take 1 (v := ?_) rfl (by kernel_rfl) (by kernel_rfl) (by kernel_rfl) (fun _ _ _ h => h) hT0 (by rfl) ?_ ?_
          rotate_left
          · (intro wq; go_simp; try with_reducible rfl)
          simp only [Act.put, List.setIfInBounds_toArray, List.set_cons_zero, List.set_cons_succ]
          refine wpF_look 2 (v := .int .i64 2) rfl rfl (by kernel_rfl) (by kernel_rfl) (by kernel_rfl) (by kernel_rfl) (fun _ _ _ h => h) hT0 (by rfl) (fun w hS => by have hS : w.cell? ⟨g, 0, none⟩ = some (.int .i64 2) := hS; have q := hS; go_simp) ?_
          simp only [Act.put, List.setIfInBounds_toArray, List.set_cons_zero, List.set_cons_succ]
          refine wpF_take 3 (v := ?_) rfl (by kernel_rfl) (by kernel_rfl) (by kernel_rfl) (fun _ _ _ h => h) hT0 (by rfl) ?_ ?_
          rotate_left
          · (intro wq; go_simp; try with_reducible rfl)
          simp only [Act.put, List.setIfInBounds_toArray, List.set_cons_zero, List.set_cons_succ]
          refine wpF_take 4 (v := ?_) rfl (by kernel_rfl) (by kernel_rfl) (by kernel_rfl) (fun _ _ _ h => h) hT0 (by rfl) ?_ ?_
          rotate_left
          · (intro wq; go_simp; try with_reducible rfl)
          simp only [Act.put, List.setIfInBounds_toArray, List.set_cons_zero, List.set_cons_succ]
          refine wpF_take 5 (v := ?_) rfl (by kernel_rfl) (by kernel_rfl) (by kernel_rfl) (fun _ _ _ h => h) hT0 (by rfl) ?_ ?_
          rotate_left
          · (intro wq; go_simp; try with_reducible rfl)
          simp only [Act.put, List.setIfInBounds_toArray, List.set_cons_zero, List.set_cons_succ]
          refine wpF_take 6 (v := .slice (cutAt la lc (i) 2) (l.length - (i)) (lc - (i))) rfl (by kernel_rfl) (by kernel_rfl) (by kernel_rfl) (fun _ _ _ h => h) hT0 (by rfl) (by intro wq; go_simp) ?_
          simp only [Act.put, List.setIfInBounds_toArray, List.set_cons_zero, List.set_cons_succ]
          refine wpF_take 8 (v := ?_) rfl (by kernel_rfl) (by kernel_rfl) (by kernel_rfl) (fun _ _ _ h => h) hT0 (by rfl) ?_ ?_
          rotate_left
          · (intro wq; go_simp; try with_reducible rfl)
          simp only [Act.put, List.setIfInBounds_toArray, List.set_cons_zero, List.set_cons_succ]
          refine wpF_take 9 (v := ?_) rfl (by kernel_rfl) (by kernel_rfl) (by kernel_rfl) (fun _ _ _ h => h) hT0 (by rfl) ?_ ?_
          rotate_left
          · (intro wq; go_simp; try with_reducible rfl)
          simp only [Act.put, List.setIfInBounds_toArray, List.set_cons_zero, List.set_cons_succ]
          refine wpF_exec 7 rfl (by kernel_rfl) (by rfl) ?_
          intro K hK
          refine op_append (m := l.length - (i)) TPair rfl rfl hF.drew rfl (hf2.ext (Ext.drew no w7) (fun _ _ h => h)) (by rw [rows_length kPair, List.length_drop]) (onePair _) (by unfold maxLen; omega) (by omega) (by show B ≤ w7.heap.size; omega) ?_
          intro a4 c4 w8 hp4
          have xx := (Ext.drew (blk a2) w7).comp hp4.ext
          have nx : ¬ blk a2 x := by rintro ⟨ad, h, hb⟩; have := (hF.base ad h).1; omega
          have hX8 := hX.ext (by simp) xx nx
          have hW8 := hW.trans xx (fun k hk => by rintro ⟨ad, h, hb⟩; have := (hF.base ad h).1; omega)
          have ho8 := hp4.own
          have hO8 := hO.ext (by simp) xx (by rintro ⟨ad, h, hb⟩; have := (hF.base ad h).1; omega)
          obtain ⟨nn, hnn⟩ : ∃ nn, nn = (i + 1) + (l.length - (i)) := ⟨_, rfl⟩
          rw [← hnn] at ho8 ⊢
          have Hnn := Lib.hid hnn
          clear hnn hp4 xx nx
          have hT1 : ∀ k, looks [(2, fun z => z.cell? ⟨g, 0, none⟩ = some (.int .i64 2))] k (w8) := looks_all ⟨hO8.cell 0 _ rfl, trivial⟩
          refine hK _ _ (looks [(2, fun z => z.cell? ⟨g, 0, none⟩ = some (.int .i64 2))]) ⟨.inr (.inr (fun x h => h)), trivial⟩ hT1 ?_
          clear hK K
          try simp only [Act.put, List.setIfInBounds_toArray, List.set_cons_zero, List.set_cons_succ]
          refine wpF_take 10 (v := .pointer (some ⟨x, 2, none⟩)) rfl (by kernel_rfl) (by kernel_rfl) (by kernel_rfl) (fun _ _ _ h => h) hT1 (by rfl) (by intro wq; go_simp) ?_
          simp only [Act.put, List.setIfInBounds_toArray, List.set_cons_zero, List.set_cons_succ]
          refine wpF_exec 11 rfl (by kernel_rfl) (by rfl) ?_
          intro K hK
          have y2 := hX8.cell 2 _ rfl
          have yf := hX8.fr 2
          go_simp
          have hX9 := hX8.set 2 (.slice a4 nn c4) (by simp)
          have hx9 : Ext (just x) w8 (w8.setCell ⟨x, 2, none⟩ (.slice a4 nn c4)) := Ext.setCell _ _ _ rfl
          generalize w8.setCell ⟨x, 2, none⟩ (.slice a4 nn c4) = w9 at *
          have hT2 : ∀ k, looks [(2, fun z => True)] k (w9) := looks_all ⟨trivial, trivial⟩
          refine hK _ _ (looks [(2, fun z => True)]) ⟨.inr (.inl (by kernel_rfl)), trivial⟩ hT2 ?_
          clear hK K
          try simp only [Act.put, List.setIfInBounds_toArray, List.set_cons_zero, List.set_cons_succ]
          refine wpF_done (by kernel_rfl) ?_ _
          have hlen : nn = E.length := by have hnr : (Go.Esc.newRow (⟨2, k, v, false⟩ : ChangeR)).length = 1 := rfl; rw [Hnn.out, HR.out, List.length_append, List.length_append, List.length_take, List.length_drop, hnr]; omega
          have ho9 : Own w9 w.heap.size a4 2 E.length c4 (rows PairR.cells E) := by
            have q := (ho8.ext hx9 (fun ad ha e => by have e : ad.block = x := e; have := (ho8.base ad ha).1; omega)).mono hB2
            rw [← rows_append, ← HR.out, hlen] at q
            exact q
          rw [hlen] at hX9
          have hWX : Ext (just x) w w9 := (hW8.mono (fun _ _ h => h.elim)).comp hx9
          clear hlen hX8 hW8 ho8 hx9
          go_wp2_with fail
          go_end0
          exact ⟨rfl, a4, c4, hX9, ho9, hWX⟩
end Go.Proofs.Ytpljcnjkdjblmaa
