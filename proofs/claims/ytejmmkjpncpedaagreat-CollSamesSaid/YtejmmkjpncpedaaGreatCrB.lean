/- The reference's set, count, bind, add, put, Step. -/
import Derived.Test.YtejmmkjpncpedaaGreatCrA
import Derived.Test.YtejmmkjpncpedaaGreatStr
import Derived.Test.YtejmmkjpncpedaaGreatRegionF
namespace Go.Proofs.YtejmmkjpncpedaaGreat
open Go.RowKit Go.Esc
set_option linter.unusedVariables false
set_option linter.unusedSimpArgs false
set_option maxRecDepth 100000 in
set_option maxHeartbeats 8000000 in
theorem refcount_any (w : World) (la : Option Addr) (l : List SumR) (lc : Nat) (o : OpR) (a : Option Addr) (c : Nat) (hr : Rd w la (rows SumR.cells l)) (hl : l.length ≤ 1099511627775) (hlc : l.length ≤ lc) :
    Calls Tryz.prog 34 #[.slice la l.length lc, o.v a c] w fun e w' => ∃ a' c', e = .returned (.slice a' (refCount l o).length c') ∧ Own w' w.heap.size a' 2 (refCount l o).length c' (rows SumR.cells (refCount l o)) ∧ Ext no w w' := by
  obtain ⟨E, hE⟩ : ∃ E, E = refCount l o := ⟨_, rfl⟩
  rw [← hE]
  have HE := Lib.hid hE
  clear hE
  obtain ⟨P, hP⟩ : ∃ P, P = posOf SumR.key Op.bytesLess o.key l := ⟨_, rfl⟩
  have hPl : P ≤ l.length := by rw [hP]; exact posOf_le _ _
  have HL := Lib.hid (show ∀ (j : Nat) x, j < P → l[j]? = some x → Op.bytesLess (SumR.key x) o.key = true by rw [hP]; exact pos_lt _ _)
  have HA := Lib.hid (show ∀ x, l[P]? = some x → Op.bytesLess (SumR.key x) o.key = false by rw [hP]; exact pos_at _ _)
  have HP := Lib.hid hP
  clear hP
  go_enter Tryz.func34, Tryz.ntmps34
  unfold OpR.v
  go_upto_region 1 with fail
  have hO := Blk.lit w #[.int .i64 o.dot.dev, .int .i64 o.dot.ep, .int .i64 o.dot.seq, .int .i64 o.coll, .int .i64 o.ver, .int .i64 o.kind, .string (str o.key), .string (str o.text), .int .i64 o.n, .int .i64 o.time, .slice a o.dots.length c] 51
  have hW := Ext.alloc no w (.cells #[.int .i64 o.dot.dev, .int .i64 o.dot.ep, .int .i64 o.dot.seq, .int .i64 o.coll, .int .i64 o.ver, .int .i64 o.kind, .string (str o.key), .string (str o.text), .int .i64 o.n, .int .i64 o.time, .slice a o.dots.length c] 51)
  have hz1 := hO.lt (by simp)
  generalize w.alloc (.cells #[.int .i64 o.dot.dev, .int .i64 o.dot.ep, .int .i64 o.dot.seq, .int .i64 o.coll, .int .i64 o.ver, .int .i64 o.kind, .string (str o.key), .string (str o.text), .int .i64 o.n, .int .i64 o.time, .slice a o.dots.length c] 51) = w1 at *
  obtain ⟨g, hg⟩ : ∃ g, g = w.heap.size := ⟨_, rfl⟩
  have hgw : w.heap.size ≤ g := by omega
  rw [← hg] at hO hz1 ⊢
  clear hg
  have q0 := hO.cell 0 _ rfl
  have q1 := hO.cell 1 _ rfl
  have q2 := hO.cell 2 _ rfl
  have q3 := hO.cell 3 _ rfl
  have q4 := hO.cell 4 _ rfl
  have q5 := hO.cell 5 _ rfl
  have q6 := hO.cell 6 _ rfl
  have q7 := hO.cell 7 _ rfl
  have q8 := hO.cell 8 _ rfl
  have q9 := hO.cell 9 _ rfl
  have q10 := hO.cell 10 _ rfl
  go_upto_region 2 with fail
  have hX := Blk.lit w1 #[.string (str o.key), .int .i64 o.n] 43
  have hxX := Ext.alloc no w1 (.cells #[.string (str o.key), .int .i64 o.n] 43)
  replace hO := hO.ext (by simp) hxX (fun h => h)
  replace hW := hW.comp hxX
  generalize w1.alloc (.cells #[.string (str o.key), .int .i64 o.n] 43) = w2 at *
  obtain ⟨gx, hgx⟩ : ∃ gx, gx = w1.heap.size := ⟨_, rfl⟩
  have hgx1 : w.heap.size ≤ gx := by omega
  have hgx2 : g < gx := by omega
  rw [← hgx] at hX ⊢
  clear hxX hgx hz1 q0 q1 q2 q3 q4 q5 q6 q7 q8 q9 q10
  have hXl := hX.lt (by simp)
  go_wp2_with fail
  go_loopw [6] (fun s6 wr => ∃ i : Nat, s6 = .int .i64 i ∧ i ≤ P ∧ Ext no w2 wr) (fun s6 _ => l.length - (intOf s6).toNat)
  case atStart => exact ⟨0, rfl, Nat.zero_le _, Ext.refl _ _⟩
  case round =>
    obtain ⟨i, rfl, hiP, hx⟩ := hrel
    have hx0 := hx
    replace hW := hW.comp hx
    replace hO := hO.ext (by simp) hx (fun h => h)
    replace hX := hX.ext (by simp) hx (fun h => h)
    clear hx
    have q6 := hO.cell 6 _ rfl
    by_cases hin : i < P
    · have hil : i < l.length := by omega
      have d1 : decide (i < l.length) = true := decT hil
      obtain ⟨x, hxm⟩ : ∃ x, l[i]? = some x := ⟨_, List.getElem?_eq_getElem (by omega)⟩
      have d2 : Op.bytesLess (str x.key).toList (str o.key).toList = true := by rw [toList_str, toList_str]; exact HL.out i x hin hxm
      obtain ⟨b, off, hsa, _⟩ := rows_shape kSum (by omega) hr (by omega)
      have hrr := hr.no hW
      rw [hsa] at hrr
      have y0 : wr.cell? ⟨b, off + i * 2, none⟩ = some (.string (str x.key)) := rows_cell kSum hrr hxm 0 _ rfl
      have y1 : wr.cell? ⟨b, off + i * 2 + 1, none⟩ = some (.int .i64 x.n) := rows_cell kSum hrr hxm 1 _ rfl
      clear hrr
      subst hsa
      clear hxm
      go_upto_region 3 with fail
      go_quiet (fail)
      have hx0 := hx0.comp (Ext.drewN no wr nq)
      generalize wr.drewN nq = wz at *
      go_wp2_with fail
      go_roundw
      case rel => exact ⟨i + 1, by go_num, by omega, hx0⟩
      case measure => simp [intOf]; omega
    · have hiP2 : i = P := by omega
      subst hiP2
      clear hx0 hin hiP
      by_cases hPn : i < l.length
      · obtain ⟨r, hrm⟩ : ∃ r, l[i]? = some r := ⟨_, List.getElem?_eq_getElem hPn⟩
        have d1 : decide (i < l.length) = true := decT hPn
        have d2 : Op.bytesLess (str r.key).toList (str o.key).toList = false := by rw [toList_str, toList_str]; exact HA.out r hrm
        obtain ⟨b, off, hsa, _⟩ := rows_shape kSum (by omega) hr (by omega)
        have hrr := hr.no hW
        rw [hsa] at hrr
        have y0 : wr.cell? ⟨b, off + i * 2, none⟩ = some (.string (str r.key)) := rows_cell kSum hrr hrm 0 _ rfl
        have y1 : wr.cell? ⟨b, off + i * 2 + 1, none⟩ = some (.int .i64 r.n) := rows_cell kSum hrr hrm 1 _ rfl
        clear hrr
        have hsa' := hsa
        subst hsa
        go_upto_region 3 with fail
        go_quiet (fail)
        have hxq := Ext.drewN no wr nq
        generalize wr.drewN nq = wz at *
        replace hW := hW.comp hxq
        replace hO := hO.ext (by simp) hxq (fun h => h)
        replace hX := hX.ext (by simp) hxq (fun h => h)
        clear hxq
        clear q6 d2 y0 y1
        clear hsa'
        have hA0 : Ext no w (wz.alloc (.cells #[] 43)) := hW.comp (Ext.alloc no _ _)
        have hf : Rd (wz.alloc (.cells #[] 43)) (some ⟨b, off, none⟩) (rows SumR.cells (l.take i)) := by have q := (hr.no hA0).take (i * 2); rwa [rows_take kSum] at q
        obtain ⟨B, hB⟩ : ∃ B, B = wz.heap.size := ⟨_, rfl⟩
        have hz : Own (wz.alloc (.cells #[] 43)) B (some ⟨wz.heap.size, 0, none⟩) 2 0 0 [] := by rw [hB]; exact Own.fresh wz _ _ _ _ _ _ _ _ (Nat.le_refl _) (by simp) (Nat.le_refl _) (Nat.zero_le _) (by simp) (by simp) (.inl (Nat.le_refl _))
        have hcA : ∀ w, (Instr.sliceAt 29 (.slice (some ⟨b, off, none⟩) l.length lc) none (some (.int .i64 (i : Int))) none).run Tryz.prog w = .ok (.slice (some ⟨b, off, none⟩) i lc) w := fun w => run_cut_h TSum w (some ⟨b, off, none⟩) _ lc .i64 i (by omega)
        have hB1 : gx < B := by have := hX.lt (by simp); omega
        have hB2 : w.heap.size ≤ B := by omega
        have hB3 : B ≤ wz.heap.size := by omega
        have hB4 : wz.heap.size ≤ B := by omega
        clear hB
        go_wp2_with (at_builtin; refine wpList_append TSum rfl rfl rfl hz rfl hf (by rw [rows_length kSum, List.length_take]; congr 1; omega) (oneSum _) ?c1 ?c2 (by simp; omega) ?_)
        case c1 => unfold maxLen; omega
        case c2 => omega
        intro a1 c1 w5 hp1
        try rw [Nat.zero_add]
        have ho1 := hp1.own
        rw [Nat.zero_add, List.nil_append] at ho1
        have hxA : Ext no wz w5 := (Ext.alloc no _ _).trans hp1.ext (fun k hk => by rintro ⟨ad, h, hb⟩; cases h; simp only at hb; omega)
        have hBs : B ≤ w5.heap.size := by have := hxA.size; omega
        clear hp1 hz hf hcA hB3 hB4 hA0
        replace hW := hW.comp hxA
        replace hO := hO.ext (by simp) hxA (fun h => h)
        replace hX := hX.ext (by simp) hxA (fun h => h)
        clear hxA
        have hrr := hr.no hW
        have y0 : w5.cell? ⟨b, off + i * 2, none⟩ = some (.string (str r.key)) := rows_cell kSum hrr hrm 0 _ rfl
        have y1 : w5.cell? ⟨b, off + i * 2 + 1, none⟩ = some (.int .i64 r.n) := rows_cell kSum hrr hrm 1 _ rfl
        clear hrr
        have q6 := hO.cell 6 _ rfl
        by_cases hk : r.key = o.key
        · have d2 : ((str r.key).toList == (str o.key).toList) = true := beqStrT hk
          have Hk := Lib.hid hk
          clear hk
          go_upto_region 6 with fail
          go_quiet (fail)
          have hxq := Ext.drewN no w5 nq
          generalize w5.drewN nq = w6 at *
          replace hW := hW.comp hxq
          replace hO := hO.ext (by simp) hxq (fun h => h)
          replace hX := hX.ext (by simp) hxq (fun h => h)
          replace ho1 := ho1.ext hxq (fun _ _ h => h)
          replace hBs := Nat.le_trans hBs hxq.size
          clear hxq
          clear d1 d2 q6 y0 y1
          have HR' := Lib.hid (show E = splice l i (i + 1) ⟨o.key, Go.Esc.wrap64 (o.n + r.n)⟩ by rw [HE.out]; unfold refCount; rw [← HP.out, hrm]; simp only; rw [if_pos Hk.out])
          have HR := HR'
          have hrr := hr.no hW
          have y0 : w6.cell? ⟨b, off + i * 2, none⟩ = some (.string (str r.key)) := rows_cell kSum hrr hrm 0 _ rfl
          have y1 : w6.cell? ⟨b, off + i * 2 + 1, none⟩ = some (.int .i64 r.n) := rows_cell kSum hrr hrm 1 _ rfl
          clear hrr
          have x0 := hX.cell 0 _ rfl
          have x1 := hX.cell 1 _ rfl
          have fx := hX.fr 1
          go_upto_region 7 with fail
          refine wp_region_F [1, 6] (looks [(1, fun z => Ext no w6 z), (6, fun z => Ext no w6 z)]) (by kernel_rfl) ?_
          have hT0 : ∀ k, looks [(1, fun z => Ext no w6 z), (6, fun z => Ext no w6 z)] k (w6.drew) := looks_all ⟨Ext.drew no w6, Ext.drew no w6, trivial⟩
          refine wpF_take 0 (v := ?_) rfl (by kernel_rfl) (by kernel_rfl) (by kernel_rfl) (fun _ _ _ h => h) hT0 (by rfl) ?_ ?_
          rotate_left
          · (intro wq; go_simp; try with_reducible rfl)
          simp only [pz]
          refine wpF_look 1 (v := .int .i64 o.n) rfl rfl (by kernel_rfl) (by kernel_rfl) (by kernel_rfl) (by kernel_rfl) (fun _ _ _ h => h) hT0 (by rfl) (fun w hS => by have hS : Ext no w6 w := hS; have q0 := hS.keeps x1 (fun h => h); go_simp) ?_
          simp only [pz]
          refine wpF_take 2 (v := ?_) rfl (by kernel_rfl) (by kernel_rfl) (by kernel_rfl) (fun _ _ _ h => h) hT0 (by rfl) ?_ ?_
          rotate_left
          · (intro wq; go_simp; try with_reducible rfl)
          simp only [pz]
          refine wpF_take 3 (v := ?_) rfl (by kernel_rfl) (by kernel_rfl) (by kernel_rfl) (fun _ _ _ h => h) hT0 (by rfl) ?_ ?_
          rotate_left
          · (intro wq; go_simp; try with_reducible rfl)
          simp only [pz]
          refine wpF_take 4 (v := .pointer (some ⟨b, off + i * 2, none⟩)) rfl (by kernel_rfl) (by kernel_rfl) (by kernel_rfl) (fun _ _ _ h => h) hT0 (by rfl) (by intro wq; go_simp) ?_
          simp only [pz]
          refine wpF_take 5 (v := ?_) rfl (by kernel_rfl) (by kernel_rfl) (by kernel_rfl) (fun _ _ _ h => h) hT0 (by rfl) ?_ ?_
          rotate_left
          · (intro wq; go_simp; try with_reducible rfl)
          simp only [pz]
          refine wpF_look 6 (v := .int .i64 r.n) rfl rfl (by kernel_rfl) (by kernel_rfl) (by kernel_rfl) (by kernel_rfl) (fun _ _ _ h => h) hT0 (by rfl) (fun w hS => by have hS : Ext no w6 w := hS; have q0 := hS.keeps y1 (fun h => h); go_simp) ?_
          simp only [pz]
          refine wpF_take 7 (v := .int .i64 (Go.Esc.wrap64 (o.n + r.n))) rfl (by kernel_rfl) (by kernel_rfl) (by kernel_rfl) (fun _ _ _ h => h) hT0 (by rfl) (by intro wq; go_simp; rfl) ?_
          simp only [pz]
          refine wpF_take 8 (v := ?_) rfl (by kernel_rfl) (by kernel_rfl) (by kernel_rfl) (fun _ _ _ h => h) hT0 (by rfl) ?_ ?_
          rotate_left
          · (intro wq; go_simp; try with_reducible rfl)
          simp only [pz]
          refine wpF_exec 9 rfl (by kernel_rfl) (by rfl) ?_
          intro K hK
          go_simp
          have hT1 : ∀ k, looks [(1, fun z => True), (6, fun z => True)] k ((w6.setCell ⟨gx, 1, none⟩ (.int .i64 (Go.Esc.wrap64 (o.n + r.n)))).drew) := looks_all ⟨trivial, trivial, trivial⟩
          refine hK _ _ (looks [(1, fun z => True), (6, fun z => True)]) ⟨.inr (.inl (by kernel_rfl)), .inr (.inl (by kernel_rfl)), trivial⟩ hT1 ?_
          clear hK K
          try simp only [pz]
          refine wpF_done (by kernel_rfl) ?_ _
          have hXs := (hX.set 1 (.int .i64 (Go.Esc.wrap64 (o.n + r.n))) (by simp)).drew
          have hxs : Ext (just gx) w6 ((w6.setCell ⟨gx, 1, none⟩ (.int .i64 (Go.Esc.wrap64 (o.n + r.n)))).drew) := (Ext.setCell (S := just gx) w6 ⟨gx, 1, none⟩ _ rfl).comp (Ext.drew _ _)
          generalize (w6.setCell ⟨gx, 1, none⟩ (.int .i64 (Go.Esc.wrap64 (o.n + r.n)))).drew = w6s at *
          replace hX := hXs
          replace hW := hW.trans hxs (fun k hk e => by have e : k = gx := e; omega)
          replace hO := hO.ext (by simp) hxs (fun e => by have e : g = gx := e; omega)
          replace ho1 := ho1.ext hxs (fun ad h e => by have e : ad.block = gx := e; have := (ho1.base ad h).1; omega)
          replace hBs := Nat.le_trans hBs hxs.size
          clear hXs hxs
          have z0 := hX.cell 0 _ rfl
          have z1 := hX.cell 1 _ rfl
          have hX1 : Rd (w6s.alloc (.cells #[.string (str o.key), .int .i64 (Go.Esc.wrap64 (o.n + r.n))] 43)) (some ⟨w6s.heap.size, 0, none⟩) (SumR.cells ⟨o.key, Go.Esc.wrap64 (o.n + r.n)⟩) := Rd.lit w6s #[.string (str o.key), .int .i64 (Go.Esc.wrap64 (o.n + r.n))] _ _
          go_wp2_with (at_builtin; refine wpList_append TSum rfl rfl rfl (ho1.alloc _) rfl hX1 rfl (one1Sum ⟨o.key, Go.Esc.wrap64 (o.n + r.n)⟩) ?c1 ?c2 ?c3 ?_)
          case c1 => unfold maxLen; omega
          case c2 => omega
          case c3 => first | omega | (simp; omega)
          intro a2 c2 w7 hp2
          have ho2 := hp2.own
          clear z0 z1
          have hxB : Ext no w w7 := (hW.comp (Ext.alloc no _ _)).trans hp2.ext (fun k hk => by rintro ⟨ad, h, hb⟩; have := (ho1.base ad h).1; omega)
          have hzB : B ≤ w7.heap.size := Nat.le_trans hBs (Nat.le_trans (Ext.alloc no w6s (.cells #[.string (str o.key), .int .i64 (Go.Esc.wrap64 (o.n + r.n))] 43)).size hp2.ext.size)
          clear hp2 hX1 hX hO hW ho1
          have hcC : ∀ w, (Instr.sliceAt 29 (.slice (some ⟨b, off, none⟩) l.length lc) (some (.int .i64 ((i : Int) + 1))) none none).run Tryz.prog w = .ok (.slice (cutAt (some ⟨b, off, none⟩) lc (i + 1) 2) (l.length - (i + 1)) (lc - (i + 1))) w := fun w => run_cut_l TSum w (some ⟨b, off, none⟩) _ lc .i64 (i + 1) (by omega)
          have hf2 : Rd w7 (cutAt (some ⟨b, off, none⟩) lc (i + 1) 2) (rows SumR.cells (l.drop (i + 1))) := by have q := (hr.no hxB).cutAt lc (i + 1) 2 (fun e => by rw [rows_length kSum]; exact Nat.mul_le_mul_right _ (by omega)); rwa [rows_drop kSum] at q
          go_wp2_with (at_builtin; refine wpList_append TSum rfl rfl rfl ho2 rfl hf2 (by rw [rows_length kSum, List.length_drop]) (oneSum _) ?c1 ?c2 ?c3 ?_)
          case c1 => unfold maxLen; omega
          case c2 => omega
          case c3 => omega
          intro a3 c3 w8 hp3
          have ho3 := hp3.own
          have hxC : Ext no w w8 := hxB.trans hp3.ext (fun k hk => by rintro ⟨ad, h, hb⟩; have := (ho2.base ad h).1; omega)
          clear hp3 hf2 hcC
          go_wp2_with fail
          go_ret
          refine ⟨a3, c3, ?_, ?_, hxC⟩
          · rw [HR.out, splice_length _ _ _ _ hPl (by omega)]; rfl
          · rw [HR.out, splice_length _ _ _ _ hPl (by omega)]; unfold splice; rw [rows_append, rows_append, rows_one]; exact ho3.mono hB2
        · have d2 : ((str r.key).toList == (str o.key).toList) = false := beqStrF hk
          have HR := Lib.hid (show E = splice l i (i) (⟨o.key, o.n⟩ : SumR) by rw [HE.out]; unfold refCount; rw [← HP.out, hrm]; simp only; rw [if_neg hk])
          clear hk
          go_upto_region 6 with fail
          go_quiet (fail)
          have hxq := Ext.drewN no w5 nq
          generalize w5.drewN nq = w6 at *
          replace hW := hW.comp hxq
          replace hO := hO.ext (by simp) hxq (fun h => h)
          replace hX := hX.ext (by simp) hxq (fun h => h)
          replace ho1 := ho1.ext hxq (fun _ _ h => h)
          replace hBs := Nat.le_trans hBs hxq.size
          clear hxq
          clear d1 d2 q6 y0 y1
          have z0 := hX.cell 0 _ rfl
          have z1 := hX.cell 1 _ rfl
          have hX1 : Rd (w6.alloc (.cells #[.string (str o.key), .int .i64 o.n] 43)) (some ⟨w6.heap.size, 0, none⟩) (SumR.cells (⟨o.key, o.n⟩ : SumR)) := Rd.lit w6 #[.string (str o.key), .int .i64 o.n] _ _
          go_wp2_with (at_builtin; refine wpList_append TSum rfl rfl rfl (ho1.alloc _) rfl hX1 rfl (one1Sum (⟨o.key, o.n⟩ : SumR)) ?c1 ?c2 ?c3 ?_)
          case c1 => unfold maxLen; omega
          case c2 => omega
          case c3 => first | omega | (simp; omega)
          intro a2 c2 w7 hp2
          have ho2 := hp2.own
          clear z0 z1
          have hxB : Ext no w w7 := (hW.comp (Ext.alloc no _ _)).trans hp2.ext (fun k hk => by rintro ⟨ad, h, hb⟩; have := (ho1.base ad h).1; omega)
          have hzB : B ≤ w7.heap.size := Nat.le_trans hBs (Nat.le_trans (Ext.alloc no w6 (.cells #[.string (str o.key), .int .i64 o.n] 43)).size hp2.ext.size)
          clear hp2 hX1 hX hO hW ho1
          have hcC : ∀ w, (Instr.sliceAt 29 (.slice (some ⟨b, off, none⟩) l.length lc) (some (.int .i64 (i : Int))) none none).run Tryz.prog w = .ok (.slice (cutAt (some ⟨b, off, none⟩) lc (i) 2) (l.length - (i)) (lc - (i))) w := fun w => run_cut_l TSum w (some ⟨b, off, none⟩) _ lc .i64 (i) (by omega)
          have hf2 : Rd w7 (cutAt (some ⟨b, off, none⟩) lc (i) 2) (rows SumR.cells (l.drop (i))) := by have q := (hr.no hxB).cutAt lc (i) 2 (fun e => by rw [rows_length kSum]; exact Nat.mul_le_mul_right _ (by omega)); rwa [rows_drop kSum] at q
          go_wp2_with (at_builtin; refine wpList_append TSum rfl rfl rfl ho2 rfl hf2 (by rw [rows_length kSum, List.length_drop]) (oneSum _) ?c1 ?c2 ?c3 ?_)
          case c1 => unfold maxLen; omega
          case c2 => omega
          case c3 => omega
          intro a3 c3 w8 hp3
          have ho3 := hp3.own
          have hxC : Ext no w w8 := hxB.trans hp3.ext (fun k hk => by rintro ⟨ad, h, hb⟩; have := (ho2.base ad h).1; omega)
          clear hp3 hf2 hcC
          go_wp2_with fail
          go_ret
          refine ⟨a3, c3, ?_, ?_, hxC⟩
          · rw [HR.out, splice_length _ _ _ _ hPl (by omega)]; rfl
          · rw [HR.out, splice_length _ _ _ _ hPl (by omega)]; unfold splice; rw [rows_append, rows_append, rows_one]; exact ho3.mono hB2
      · have hiE : i = l.length := by omega
        have d1 : decide (i < l.length) = false := decF hPn
        have HR := Lib.hid (show E = splice l i i (⟨o.key, o.n⟩ : SumR) by rw [HE.out]; unfold refCount; rw [← HP.out, List.getElem?_eq_none (by omega)])
        clear hiE
        go_upto_region 3 with fail
        go_quiet (fail)
        have hxq := Ext.drewN no wr nq
        generalize wr.drewN nq = wz at *
        replace hW := hW.comp hxq
        replace hO := hO.ext (by simp) hxq (fun h => h)
        replace hX := hX.ext (by simp) hxq (fun h => h)
        clear hxq
        clear q6
        have hA0 : Ext no w (wz.alloc (.cells #[] 43)) := hW.comp (Ext.alloc no _ _)
        have hf : Rd (wz.alloc (.cells #[] 43)) la (rows SumR.cells (l.take i)) := by have q := (hr.no hA0).take (i * 2); rwa [rows_take kSum] at q
        obtain ⟨B, hB⟩ : ∃ B, B = wz.heap.size := ⟨_, rfl⟩
        have hz : Own (wz.alloc (.cells #[] 43)) B (some ⟨wz.heap.size, 0, none⟩) 2 0 0 [] := by rw [hB]; exact Own.fresh wz _ _ _ _ _ _ _ _ (Nat.le_refl _) (by simp) (Nat.le_refl _) (Nat.zero_le _) (by simp) (by simp) (.inl (Nat.le_refl _))
        have hcA : ∀ w, (Instr.sliceAt 29 (.slice la l.length lc) none (some (.int .i64 (i : Int))) none).run Tryz.prog w = .ok (.slice la i lc) w := fun w => run_cut_h TSum w la _ lc .i64 i (by omega)
        have hB1 : gx < B := by have := hX.lt (by simp); omega
        have hB2 : w.heap.size ≤ B := by omega
        have hB3 : B ≤ wz.heap.size := by omega
        have hB4 : wz.heap.size ≤ B := by omega
        clear hB
        go_wp2_with (at_builtin; refine wpList_append TSum rfl rfl rfl hz rfl hf (by rw [rows_length kSum, List.length_take]; congr 1; omega) (oneSum _) ?c1 ?c2 (by simp; omega) ?_)
        case c1 => unfold maxLen; omega
        case c2 => omega
        intro a1 c1 w5 hp1
        try rw [Nat.zero_add]
        have ho1 := hp1.own
        rw [Nat.zero_add, List.nil_append] at ho1
        have hxA : Ext no wz w5 := (Ext.alloc no _ _).trans hp1.ext (fun k hk => by rintro ⟨ad, h, hb⟩; cases h; simp only at hb; omega)
        have hBs : B ≤ w5.heap.size := by have := hxA.size; omega
        clear hp1 hz hf hcA hB3 hB4 hA0
        replace hW := hW.comp hxA
        replace hO := hO.ext (by simp) hxA (fun h => h)
        replace hX := hX.ext (by simp) hxA (fun h => h)
        clear hxA
        have q6 := hO.cell 6 _ rfl
        go_upto_region 6 with fail
        go_quiet (fail)
        have hxq := Ext.drewN no w5 nq
        generalize w5.drewN nq = w6 at *
        replace hW := hW.comp hxq
        replace hO := hO.ext (by simp) hxq (fun h => h)
        replace hX := hX.ext (by simp) hxq (fun h => h)
        replace ho1 := ho1.ext hxq (fun _ _ h => h)
        replace hBs := Nat.le_trans hBs hxq.size
        clear hxq
        clear d1 q6
        have z0 := hX.cell 0 _ rfl
        have z1 := hX.cell 1 _ rfl
        have hX1 : Rd (w6.alloc (.cells #[.string (str o.key), .int .i64 o.n] 43)) (some ⟨w6.heap.size, 0, none⟩) (SumR.cells (⟨o.key, o.n⟩ : SumR)) := Rd.lit w6 #[.string (str o.key), .int .i64 o.n] _ _
        go_wp2_with (at_builtin; refine wpList_append TSum rfl rfl rfl (ho1.alloc _) rfl hX1 rfl (one1Sum (⟨o.key, o.n⟩ : SumR)) ?c1 ?c2 ?c3 ?_)
        case c1 => unfold maxLen; omega
        case c2 => omega
        case c3 => first | omega | (simp; omega)
        intro a2 c2 w7 hp2
        have ho2 := hp2.own
        clear z0 z1
        have hxB : Ext no w w7 := (hW.comp (Ext.alloc no _ _)).trans hp2.ext (fun k hk => by rintro ⟨ad, h, hb⟩; have := (ho1.base ad h).1; omega)
        have hzB : B ≤ w7.heap.size := Nat.le_trans hBs (Nat.le_trans (Ext.alloc no w6 (.cells #[.string (str o.key), .int .i64 o.n] 43)).size hp2.ext.size)
        clear hp2 hX1 hX hO hW ho1
        have hcC : ∀ w, (Instr.sliceAt 29 (.slice la l.length lc) (some (.int .i64 (i : Int))) none none).run Tryz.prog w = .ok (.slice (cutAt la lc (i) 2) (l.length - (i)) (lc - (i))) w := fun w => run_cut_l TSum w la _ lc .i64 (i) (by omega)
        have hf2 : Rd w7 (cutAt la lc (i) 2) (rows SumR.cells (l.drop (i))) := by have q := (hr.no hxB).cutAt lc (i) 2 (fun e => by rw [rows_length kSum]; exact Nat.mul_le_mul_right _ (by omega)); rwa [rows_drop kSum] at q
        go_wp2_with (at_builtin; refine wpList_append TSum rfl rfl rfl ho2 rfl hf2 (by rw [rows_length kSum, List.length_drop]) (oneSum _) ?c1 ?c2 ?c3 ?_)
        case c1 => unfold maxLen; omega
        case c2 => omega
        case c3 => omega
        intro a3 c3 w8 hp3
        have ho3 := hp3.own
        have hxC : Ext no w w8 := hxB.trans hp3.ext (fun k hk => by rintro ⟨ad, h, hb⟩; have := (ho2.base ad h).1; omega)
        clear hp3 hf2 hcC
        go_wp2_with fail
        go_ret
        refine ⟨a3, c3, ?_, ?_, hxC⟩
        · rw [HR.out, splice_length _ _ _ _ hPl (by omega)]; rfl
        · rw [HR.out, splice_length _ _ _ _ hPl (by omega)]; unfold splice; rw [rows_append, rows_append, rows_one]; exact ho3.mono hB2
set_option maxRecDepth 100000 in
set_option maxHeartbeats 8000000 in
theorem refbind_any (w : World) (la : Option Addr) (l : List BindR) (lc : Nat) (o : OpR) (a : Option Addr) (c : Nat) (hr : Rd w la (rows BindR.cells l)) (hl : l.length ≤ 1099511627775) (hlc : l.length ≤ lc) :
    Calls Tryz.prog 35 #[.slice la l.length lc, o.v a c] w fun e w' => ∃ a' c', e = .returned (.slice a' (refBind l o).length c') ∧ Own w' w.heap.size a' 6 (refBind l o).length c' (rows BindR.cells (refBind l o)) ∧ Ext no w w' := by
  obtain ⟨E, hE⟩ : ∃ E, E = refBind l o := ⟨_, rfl⟩
  rw [← hE]
  have HE := Lib.hid hE
  clear hE
  obtain ⟨P, hP⟩ : ∃ P, P = posOf BindR.id intLt o.n l := ⟨_, rfl⟩
  have hPl : P ≤ l.length := by rw [hP]; exact posOf_le _ _
  have HL := Lib.hid (show ∀ (j : Nat) x, j < P → l[j]? = some x → intLt (BindR.id x) o.n = true by rw [hP]; exact pos_lt _ _)
  have HA := Lib.hid (show ∀ x, l[P]? = some x → intLt (BindR.id x) o.n = false by rw [hP]; exact pos_at _ _)
  have HP := Lib.hid hP
  clear hP
  go_enter Tryz.func35, Tryz.ntmps35
  unfold OpR.v
  go_upto_region 1 with fail
  have hO := Blk.lit w #[.int .i64 o.dot.dev, .int .i64 o.dot.ep, .int .i64 o.dot.seq, .int .i64 o.coll, .int .i64 o.ver, .int .i64 o.kind, .string (str o.key), .string (str o.text), .int .i64 o.n, .int .i64 o.time, .slice a o.dots.length c] 51
  have hW := Ext.alloc no w (.cells #[.int .i64 o.dot.dev, .int .i64 o.dot.ep, .int .i64 o.dot.seq, .int .i64 o.coll, .int .i64 o.ver, .int .i64 o.kind, .string (str o.key), .string (str o.text), .int .i64 o.n, .int .i64 o.time, .slice a o.dots.length c] 51)
  have hz1 := hO.lt (by simp)
  generalize w.alloc (.cells #[.int .i64 o.dot.dev, .int .i64 o.dot.ep, .int .i64 o.dot.seq, .int .i64 o.coll, .int .i64 o.ver, .int .i64 o.kind, .string (str o.key), .string (str o.text), .int .i64 o.n, .int .i64 o.time, .slice a o.dots.length c] 51) = w1 at *
  obtain ⟨g, hg⟩ : ∃ g, g = w.heap.size := ⟨_, rfl⟩
  have hgw : w.heap.size ≤ g := by omega
  rw [← hg] at hO hz1 ⊢
  clear hg
  have q0 := hO.cell 0 _ rfl
  have q1 := hO.cell 1 _ rfl
  have q2 := hO.cell 2 _ rfl
  have q3 := hO.cell 3 _ rfl
  have q4 := hO.cell 4 _ rfl
  have q5 := hO.cell 5 _ rfl
  have q6 := hO.cell 6 _ rfl
  have q7 := hO.cell 7 _ rfl
  have q8 := hO.cell 8 _ rfl
  have q9 := hO.cell 9 _ rfl
  have q10 := hO.cell 10 _ rfl
  go_upto_region 2 with fail
  have hX := Blk.lit w1 #[.int .i64 o.n, .string (str o.text), .int .i64 o.ver, .int .i64 o.dot.dev, .int .i64 o.dot.ep, .int .i64 o.dot.seq] 45
  have hxX := Ext.alloc no w1 (.cells #[.int .i64 o.n, .string (str o.text), .int .i64 o.ver, .int .i64 o.dot.dev, .int .i64 o.dot.ep, .int .i64 o.dot.seq] 45)
  replace hO := hO.ext (by simp) hxX (fun h => h)
  replace hW := hW.comp hxX
  generalize w1.alloc (.cells #[.int .i64 o.n, .string (str o.text), .int .i64 o.ver, .int .i64 o.dot.dev, .int .i64 o.dot.ep, .int .i64 o.dot.seq] 45) = w2 at *
  obtain ⟨gx, hgx⟩ : ∃ gx, gx = w1.heap.size := ⟨_, rfl⟩
  have hgx1 : w.heap.size ≤ gx := by omega
  have hgx2 : g < gx := by omega
  rw [← hgx] at hX ⊢
  clear hxX hgx hz1 q0 q1 q2 q3 q4 q5 q6 q7 q8 q9 q10
  have hXl := hX.lt (by simp)
  go_wp2_with fail
  go_loopw [6] (fun s6 wr => ∃ i : Nat, s6 = .int .i64 i ∧ i ≤ P ∧ Ext no w2 wr) (fun s6 _ => l.length - (intOf s6).toNat)
  case atStart => exact ⟨0, rfl, Nat.zero_le _, Ext.refl _ _⟩
  case round =>
    obtain ⟨i, rfl, hiP, hx⟩ := hrel
    have hx0 := hx
    replace hW := hW.comp hx
    replace hO := hO.ext (by simp) hx (fun h => h)
    replace hX := hX.ext (by simp) hx (fun h => h)
    clear hx
    have q8 := hO.cell 8 _ rfl
    by_cases hin : i < P
    · have hil : i < l.length := by omega
      have d1 : decide (i < l.length) = true := decT hil
      obtain ⟨x, hxm⟩ : ∃ x, l[i]? = some x := ⟨_, List.getElem?_eq_getElem (by omega)⟩
      have d2 : decide (x.id < o.n) = true := HL.out i x hin hxm
      obtain ⟨b, off, hsa, _⟩ := rows_shape kBind (by omega) hr (by omega)
      have hrr := hr.no hW
      rw [hsa] at hrr
      have y0 : wr.cell? ⟨b, off + i * 6, none⟩ = some (.int .i64 x.id) := rows_cell kBind hrr hxm 0 _ rfl
      have y1 : wr.cell? ⟨b, off + i * 6 + 1, none⟩ = some (.string (str x.text)) := rows_cell kBind hrr hxm 1 _ rfl
      have y2 : wr.cell? ⟨b, off + i * 6 + 2, none⟩ = some (.int .i64 x.ver) := rows_cell kBind hrr hxm 2 _ rfl
      have y3 : wr.cell? ⟨b, off + i * 6 + 3, none⟩ = some (.int .i64 x.dot.dev) := rows_cell kBind hrr hxm 3 _ rfl
      have y4 : wr.cell? ⟨b, off + i * 6 + 4, none⟩ = some (.int .i64 x.dot.ep) := rows_cell kBind hrr hxm 4 _ rfl
      have y5 : wr.cell? ⟨b, off + i * 6 + 5, none⟩ = some (.int .i64 x.dot.seq) := rows_cell kBind hrr hxm 5 _ rfl
      clear hrr
      subst hsa
      clear hxm
      go_upto_region 3 with fail
      go_quiet (fail)
      have hx0 := hx0.comp (Ext.drewN no wr nq)
      generalize wr.drewN nq = wz at *
      go_wp2_with fail
      go_roundw
      case rel => exact ⟨i + 1, by go_num, by omega, hx0⟩
      case measure => simp [intOf]; omega
    · have hiP2 : i = P := by omega
      subst hiP2
      clear hx0 hin hiP
      by_cases hPn : i < l.length
      · obtain ⟨r, hrm⟩ : ∃ r, l[i]? = some r := ⟨_, List.getElem?_eq_getElem hPn⟩
        have d1 : decide (i < l.length) = true := decT hPn
        have d2 : decide (r.id < o.n) = false := HA.out r hrm
        obtain ⟨b, off, hsa, _⟩ := rows_shape kBind (by omega) hr (by omega)
        have hrr := hr.no hW
        rw [hsa] at hrr
        have y0 : wr.cell? ⟨b, off + i * 6, none⟩ = some (.int .i64 r.id) := rows_cell kBind hrr hrm 0 _ rfl
        have y1 : wr.cell? ⟨b, off + i * 6 + 1, none⟩ = some (.string (str r.text)) := rows_cell kBind hrr hrm 1 _ rfl
        have y2 : wr.cell? ⟨b, off + i * 6 + 2, none⟩ = some (.int .i64 r.ver) := rows_cell kBind hrr hrm 2 _ rfl
        have y3 : wr.cell? ⟨b, off + i * 6 + 3, none⟩ = some (.int .i64 r.dot.dev) := rows_cell kBind hrr hrm 3 _ rfl
        have y4 : wr.cell? ⟨b, off + i * 6 + 4, none⟩ = some (.int .i64 r.dot.ep) := rows_cell kBind hrr hrm 4 _ rfl
        have y5 : wr.cell? ⟨b, off + i * 6 + 5, none⟩ = some (.int .i64 r.dot.seq) := rows_cell kBind hrr hrm 5 _ rfl
        clear hrr
        have hsa' := hsa
        subst hsa
        go_upto_region 3 with fail
        go_quiet (fail)
        have hxq := Ext.drewN no wr nq
        generalize wr.drewN nq = wz at *
        replace hW := hW.comp hxq
        replace hO := hO.ext (by simp) hxq (fun h => h)
        replace hX := hX.ext (by simp) hxq (fun h => h)
        clear hxq
        clear q8 d2 y0 y1 y2 y3 y4 y5
        clear hsa'
        have hA0 : Ext no w (wz.alloc (.cells #[] 45)) := hW.comp (Ext.alloc no _ _)
        have hf : Rd (wz.alloc (.cells #[] 45)) (some ⟨b, off, none⟩) (rows BindR.cells (l.take i)) := by have q := (hr.no hA0).take (i * 6); rwa [rows_take kBind] at q
        obtain ⟨B, hB⟩ : ∃ B, B = wz.heap.size := ⟨_, rfl⟩
        have hz : Own (wz.alloc (.cells #[] 45)) B (some ⟨wz.heap.size, 0, none⟩) 6 0 0 [] := by rw [hB]; exact Own.fresh wz _ _ _ _ _ _ _ _ (Nat.le_refl _) (by simp) (Nat.le_refl _) (Nat.zero_le _) (by simp) (by simp) (.inl (Nat.le_refl _))
        have hcA : ∀ w, (Instr.sliceAt 30 (.slice (some ⟨b, off, none⟩) l.length lc) none (some (.int .i64 (i : Int))) none).run Tryz.prog w = .ok (.slice (some ⟨b, off, none⟩) i lc) w := fun w => run_cut_h TBind w (some ⟨b, off, none⟩) _ lc .i64 i (by omega)
        have hB1 : gx < B := by have := hX.lt (by simp); omega
        have hB2 : w.heap.size ≤ B := by omega
        have hB3 : B ≤ wz.heap.size := by omega
        have hB4 : wz.heap.size ≤ B := by omega
        clear hB
        go_wp2_with (at_builtin; refine wpList_append TBind rfl rfl rfl hz rfl hf (by rw [rows_length kBind, List.length_take]; congr 1; omega) (oneBind _) ?c1 ?c2 (by simp; omega) ?_)
        case c1 => unfold maxLen; omega
        case c2 => omega
        intro a1 c1 w5 hp1
        try rw [Nat.zero_add]
        have ho1 := hp1.own
        rw [Nat.zero_add, List.nil_append] at ho1
        have hxA : Ext no wz w5 := (Ext.alloc no _ _).trans hp1.ext (fun k hk => by rintro ⟨ad, h, hb⟩; cases h; simp only at hb; omega)
        have hBs : B ≤ w5.heap.size := by have := hxA.size; omega
        clear hp1 hz hf hcA hB3 hB4 hA0
        replace hW := hW.comp hxA
        replace hO := hO.ext (by simp) hxA (fun h => h)
        replace hX := hX.ext (by simp) hxA (fun h => h)
        clear hxA
        have hrr := hr.no hW
        have y0 : w5.cell? ⟨b, off + i * 6, none⟩ = some (.int .i64 r.id) := rows_cell kBind hrr hrm 0 _ rfl
        have y1 : w5.cell? ⟨b, off + i * 6 + 1, none⟩ = some (.string (str r.text)) := rows_cell kBind hrr hrm 1 _ rfl
        have y2 : w5.cell? ⟨b, off + i * 6 + 2, none⟩ = some (.int .i64 r.ver) := rows_cell kBind hrr hrm 2 _ rfl
        have y3 : w5.cell? ⟨b, off + i * 6 + 3, none⟩ = some (.int .i64 r.dot.dev) := rows_cell kBind hrr hrm 3 _ rfl
        have y4 : w5.cell? ⟨b, off + i * 6 + 4, none⟩ = some (.int .i64 r.dot.ep) := rows_cell kBind hrr hrm 4 _ rfl
        have y5 : w5.cell? ⟨b, off + i * 6 + 5, none⟩ = some (.int .i64 r.dot.seq) := rows_cell kBind hrr hrm 5 _ rfl
        clear hrr
        have q8 := hO.cell 8 _ rfl
        by_cases hk : r.id = o.n
        · have d2 : (r.id == o.n) = true := by simpa using hk
          have Hk := Lib.hid hk
          clear hk
          go_upto_region 6 with fail
          go_quiet (fail)
          have hxq := Ext.drewN no w5 nq
          generalize w5.drewN nq = w6 at *
          replace hW := hW.comp hxq
          replace hO := hO.ext (by simp) hxq (fun h => h)
          replace hX := hX.ext (by simp) hxq (fun h => h)
          replace ho1 := ho1.ext hxq (fun _ _ h => h)
          replace hBs := Nat.le_trans hBs hxq.size
          clear hxq
          clear d1 d2 q8 y0 y1 y2 y3 y4 y5
          have hrr := hr.no hW
          have y0 : w6.cell? ⟨b, off + i * 6, none⟩ = some (.int .i64 r.id) := rows_cell kBind hrr hrm 0 _ rfl
          have y1 : w6.cell? ⟨b, off + i * 6 + 1, none⟩ = some (.string (str r.text)) := rows_cell kBind hrr hrm 1 _ rfl
          have y2 : w6.cell? ⟨b, off + i * 6 + 2, none⟩ = some (.int .i64 r.ver) := rows_cell kBind hrr hrm 2 _ rfl
          have y3 : w6.cell? ⟨b, off + i * 6 + 3, none⟩ = some (.int .i64 r.dot.dev) := rows_cell kBind hrr hrm 3 _ rfl
          have y4 : w6.cell? ⟨b, off + i * 6 + 4, none⟩ = some (.int .i64 r.dot.ep) := rows_cell kBind hrr hrm 4 _ rfl
          have y5 : w6.cell? ⟨b, off + i * 6 + 5, none⟩ = some (.int .i64 r.dot.seq) := rows_cell kBind hrr hrm 5 _ rfl
          clear hrr
          have q0 := hO.cell 0 _ rfl
          have q1 := hO.cell 1 _ rfl
          have q2 := hO.cell 2 _ rfl
          have d1 : decide (i < l.length) = true := decT hPn
          cases t3 : DotR.lt o.dot r.dot with
          | true =>
            have HR := Lib.hid (show E = splice l i (i + 1) (bindOf o) by rw [HE.out]; unfold refBind; rw [← HP.out, hrm]; simp only; rw [if_pos Hk.out]; unfold refBindX; rw [t3]; rfl)
            go_upto_region 7 with fail
            refine wp_region_F [1, 6] (looks [(1, fun z => Ext no w6 z), (6, fun z => Ext no w6 z)]) (by kernel_rfl) ?_
            have hT0 : ∀ k, looks [(1, fun z => Ext no w6 z), (6, fun z => Ext no w6 z)] k (w6.drew) := looks_all ⟨Ext.drew no w6, Ext.drew no w6, trivial⟩
            refine wpF_take 0 (v := ?_) rfl (by kernel_rfl) (by kernel_rfl) (by kernel_rfl) (fun _ _ _ h => h) hT0 (by rfl) ?_ ?_
            rotate_left
            · (intro wq; go_simp; try with_reducible rfl)
            simp only [pz]
            refine wpF_look 1 (v := .agg #[.int .i64 o.dot.dev, .int .i64 o.dot.ep, .int .i64 o.dot.seq]) rfl rfl (by kernel_rfl) (by kernel_rfl) (by kernel_rfl) (by kernel_rfl) (fun _ _ _ h => h) hT0 (by rfl) (fun w hS => by have hS : Ext no w6 w := hS; have q0 := hS.keeps q0 (fun h => h); have q1 := hS.keeps q1 (fun h => h); have q2 := hS.keeps q2 (fun h => h); go_simp) ?_
            simp only [pz]
            refine wpF_take 2 (v := ?_) rfl (by kernel_rfl) (by kernel_rfl) (by kernel_rfl) (fun _ _ _ h => h) hT0 (by rfl) ?_ ?_
            rotate_left
            · (intro wq; go_simp; try with_reducible rfl)
            simp only [pz]
            refine wpF_take 3 (v := ?_) rfl (by kernel_rfl) (by kernel_rfl) (by kernel_rfl) (fun _ _ _ h => h) hT0 (by rfl) ?_ ?_
            rotate_left
            · (intro wq; go_simp; try with_reducible rfl)
            simp only [pz]
            refine wpF_take 4 (v := .pointer (some ⟨b, off + i * 6, none⟩)) rfl (by kernel_rfl) (by kernel_rfl) (by kernel_rfl) (fun _ _ _ h => h) hT0 (by rfl) (by intro wq; go_simp) ?_
            simp only [pz]
            refine wpF_take 5 (v := ?_) rfl (by kernel_rfl) (by kernel_rfl) (by kernel_rfl) (fun _ _ _ h => h) hT0 (by rfl) ?_ ?_
            rotate_left
            · (intro wq; go_simp; try with_reducible rfl)
            simp only [pz]
            refine wpF_look 6 (v := .agg #[.int .i64 r.dot.dev, .int .i64 r.dot.ep, .int .i64 r.dot.seq]) rfl rfl (by kernel_rfl) (by kernel_rfl) (by kernel_rfl) (by kernel_rfl) (fun _ _ _ h => h) hT0 (by rfl) (fun w hS => by have hS : Ext no w6 w := hS; have q0 := hS.keeps y3 (fun h => h); have q1 := hS.keeps y4 (fun h => h); have q2 := hS.keeps y5 (fun h => h); go_simp) ?_
            simp only [pz]
            refine wpF_exec 7 rfl (by kernel_rfl) (by rfl) ?_
            intro K hK
            go_simp
            refine (less_any _ o.dot r.dot).mono ?_
            rintro e w3 ⟨rfl, hx3⟩
            have hT1 : ∀ k, looks [(1, fun z => Ext no w6 z), (6, fun z => Ext no w6 z)] k (w3) := looks_all ⟨(Ext.drew no w6).comp hx3, (Ext.drew no w6).comp hx3, trivial⟩
            refine hK _ _ (looks [(1, fun z => Ext no w6 z), (6, fun z => Ext no w6 z)]) ⟨.inr (.inl (by kernel_rfl)), .inr (.inl (by kernel_rfl)), trivial⟩ hT1 ?_
            clear hK K
            try simp only [pz]
            replace hx3 := (Ext.drew no w6).comp hx3
            refine wpF_take 8 (v := .bool false) rfl (by kernel_rfl) (by kernel_rfl) (by kernel_rfl) (fun _ _ _ h => h) hT1 (by rfl) (by intro wq; go_simp; first | done | rfl) ?_
            simp only [pz]
            refine wpF_done (by kernel_rfl) ?_ _
            clear q0 q1 q2 y0 y1 y2 y3 y4 y5
            replace hW := hW.comp hx3
            replace hO := hO.ext (by simp) hx3 (fun h => h)
            replace hX := hX.ext (by simp) hx3 (fun h => h)
            replace ho1 := ho1.ext hx3 (fun _ _ h => h)
            replace hBs := Nat.le_trans hBs hx3.size
            clear hx3
            have z0 := hX.cell 0 _ rfl
            have z1 := hX.cell 1 _ rfl
            have z2 := hX.cell 2 _ rfl
            have z3 := hX.cell 3 _ rfl
            have z4 := hX.cell 4 _ rfl
            have z5 := hX.cell 5 _ rfl
            have hX1 : Rd (w3.alloc (.cells #[.int .i64 o.n, .string (str o.text), .int .i64 o.ver, .int .i64 o.dot.dev, .int .i64 o.dot.ep, .int .i64 o.dot.seq] 45)) (some ⟨w3.heap.size, 0, none⟩) (BindR.cells (bindOf o)) := Rd.lit w3 #[.int .i64 o.n, .string (str o.text), .int .i64 o.ver, .int .i64 o.dot.dev, .int .i64 o.dot.ep, .int .i64 o.dot.seq] _ _
            go_wp2_with (at_builtin; refine wpList_append TBind rfl rfl rfl (ho1.alloc _) rfl hX1 rfl (one1Bind (bindOf o)) ?c1 ?c2 ?c3 ?_)
            case c1 => unfold maxLen; omega
            case c2 => omega
            case c3 => first | omega | (simp; omega)
            intro a2 c2 w7 hp2
            have ho2 := hp2.own
            clear z0 z1 z2 z3 z4 z5
            have hxB : Ext no w w7 := (hW.comp (Ext.alloc no _ _)).trans hp2.ext (fun k hk => by rintro ⟨ad, h, hb⟩; have := (ho1.base ad h).1; omega)
            have hzB : B ≤ w7.heap.size := Nat.le_trans hBs (Nat.le_trans (Ext.alloc no w3 (.cells #[.int .i64 o.n, .string (str o.text), .int .i64 o.ver, .int .i64 o.dot.dev, .int .i64 o.dot.ep, .int .i64 o.dot.seq] 45)).size hp2.ext.size)
            clear hp2 hX1 hX hO hW ho1
            have hcC : ∀ w, (Instr.sliceAt 30 (.slice (some ⟨b, off, none⟩) l.length lc) (some (.int .i64 ((i : Int) + 1))) none none).run Tryz.prog w = .ok (.slice (cutAt (some ⟨b, off, none⟩) lc (i + 1) 6) (l.length - (i + 1)) (lc - (i + 1))) w := fun w => run_cut_l TBind w (some ⟨b, off, none⟩) _ lc .i64 (i + 1) (by omega)
            have hf2 : Rd w7 (cutAt (some ⟨b, off, none⟩) lc (i + 1) 6) (rows BindR.cells (l.drop (i + 1))) := by have q := (hr.no hxB).cutAt lc (i + 1) 6 (fun e => by rw [rows_length kBind]; exact Nat.mul_le_mul_right _ (by omega)); rwa [rows_drop kBind] at q
            go_wp2_with (at_builtin; refine wpList_append TBind rfl rfl rfl ho2 rfl hf2 (by rw [rows_length kBind, List.length_drop]) (oneBind _) ?c1 ?c2 ?c3 ?_)
            case c1 => unfold maxLen; omega
            case c2 => omega
            case c3 => omega
            intro a3 c3 w8 hp3
            have ho3 := hp3.own
            have hxC : Ext no w w8 := hxB.trans hp3.ext (fun k hk => by rintro ⟨ad, h, hb⟩; have := (ho2.base ad h).1; omega)
            clear hp3 hf2 hcC
            go_wp2_with fail
            go_ret
            refine ⟨a3, c3, ?_, ?_, hxC⟩
            · rw [HR.out, splice_length _ _ _ _ hPl (by omega)]; rfl
            · rw [HR.out, splice_length _ _ _ _ hPl (by omega)]; unfold splice; rw [rows_append, rows_append, rows_one]; exact ho3.mono hB2
          | false =>
            have HR := Lib.hid (show E = splice l i (i + 1) r by rw [HE.out]; unfold refBind; rw [← HP.out, hrm]; simp only; rw [if_pos Hk.out]; unfold refBindX; rw [t3]; rfl)
            go_upto_region 7 with fail
            refine wp_region_F [1, 6] (looks [(1, fun z => Ext no w6 z), (6, fun z => Ext no w6 z)]) (by kernel_rfl) ?_
            have hT0 : ∀ k, looks [(1, fun z => Ext no w6 z), (6, fun z => Ext no w6 z)] k (w6.drew) := looks_all ⟨Ext.drew no w6, Ext.drew no w6, trivial⟩
            refine wpF_take 0 (v := ?_) rfl (by kernel_rfl) (by kernel_rfl) (by kernel_rfl) (fun _ _ _ h => h) hT0 (by rfl) ?_ ?_
            rotate_left
            · (intro wq; go_simp; try with_reducible rfl)
            simp only [pz]
            refine wpF_look 1 (v := .agg #[.int .i64 o.dot.dev, .int .i64 o.dot.ep, .int .i64 o.dot.seq]) rfl rfl (by kernel_rfl) (by kernel_rfl) (by kernel_rfl) (by kernel_rfl) (fun _ _ _ h => h) hT0 (by rfl) (fun w hS => by have hS : Ext no w6 w := hS; have q0 := hS.keeps q0 (fun h => h); have q1 := hS.keeps q1 (fun h => h); have q2 := hS.keeps q2 (fun h => h); go_simp) ?_
            simp only [pz]
            refine wpF_take 2 (v := ?_) rfl (by kernel_rfl) (by kernel_rfl) (by kernel_rfl) (fun _ _ _ h => h) hT0 (by rfl) ?_ ?_
            rotate_left
            · (intro wq; go_simp; try with_reducible rfl)
            simp only [pz]
            refine wpF_take 3 (v := ?_) rfl (by kernel_rfl) (by kernel_rfl) (by kernel_rfl) (fun _ _ _ h => h) hT0 (by rfl) ?_ ?_
            rotate_left
            · (intro wq; go_simp; try with_reducible rfl)
            simp only [pz]
            refine wpF_take 4 (v := .pointer (some ⟨b, off + i * 6, none⟩)) rfl (by kernel_rfl) (by kernel_rfl) (by kernel_rfl) (fun _ _ _ h => h) hT0 (by rfl) (by intro wq; go_simp) ?_
            simp only [pz]
            refine wpF_take 5 (v := ?_) rfl (by kernel_rfl) (by kernel_rfl) (by kernel_rfl) (fun _ _ _ h => h) hT0 (by rfl) ?_ ?_
            rotate_left
            · (intro wq; go_simp; try with_reducible rfl)
            simp only [pz]
            refine wpF_look 6 (v := .agg #[.int .i64 r.dot.dev, .int .i64 r.dot.ep, .int .i64 r.dot.seq]) rfl rfl (by kernel_rfl) (by kernel_rfl) (by kernel_rfl) (by kernel_rfl) (fun _ _ _ h => h) hT0 (by rfl) (fun w hS => by have hS : Ext no w6 w := hS; have q0 := hS.keeps y3 (fun h => h); have q1 := hS.keeps y4 (fun h => h); have q2 := hS.keeps y5 (fun h => h); go_simp) ?_
            simp only [pz]
            refine wpF_exec 7 rfl (by kernel_rfl) (by rfl) ?_
            intro K hK
            go_simp
            refine (less_any _ o.dot r.dot).mono ?_
            rintro e w3 ⟨rfl, hx3⟩
            have hT1 : ∀ k, looks [(1, fun z => Ext no w6 z), (6, fun z => Ext no w6 z)] k (w3) := looks_all ⟨(Ext.drew no w6).comp hx3, (Ext.drew no w6).comp hx3, trivial⟩
            refine hK _ _ (looks [(1, fun z => Ext no w6 z), (6, fun z => Ext no w6 z)]) ⟨.inr (.inl (by kernel_rfl)), .inr (.inl (by kernel_rfl)), trivial⟩ hT1 ?_
            clear hK K
            try simp only [pz]
            replace hx3 := (Ext.drew no w6).comp hx3
            refine wpF_take 8 (v := .bool true) rfl (by kernel_rfl) (by kernel_rfl) (by kernel_rfl) (fun _ _ _ h => h) hT1 (by rfl) (by intro wq; go_simp; first | done | rfl) ?_
            simp only [pz]
            refine wpF_done (by kernel_rfl) ?_ _
            clear q0 q1 q2 y0 y1 y2 y3 y4 y5
            replace hW := hW.comp hx3
            replace hO := hO.ext (by simp) hx3 (fun h => h)
            replace hX := hX.ext (by simp) hx3 (fun h => h)
            replace ho1 := ho1.ext hx3 (fun _ _ h => h)
            replace hBs := Nat.le_trans hBs hx3.size
            clear hx3
            have hrr := hr.no hW
            have y0 : w3.cell? ⟨b, off + i * 6, none⟩ = some (.int .i64 r.id) := rows_cell kBind hrr hrm 0 _ rfl
            have y1 : w3.cell? ⟨b, off + i * 6 + 1, none⟩ = some (.string (str r.text)) := rows_cell kBind hrr hrm 1 _ rfl
            have y2 : w3.cell? ⟨b, off + i * 6 + 2, none⟩ = some (.int .i64 r.ver) := rows_cell kBind hrr hrm 2 _ rfl
            have y3 : w3.cell? ⟨b, off + i * 6 + 3, none⟩ = some (.int .i64 r.dot.dev) := rows_cell kBind hrr hrm 3 _ rfl
            have y4 : w3.cell? ⟨b, off + i * 6 + 4, none⟩ = some (.int .i64 r.dot.ep) := rows_cell kBind hrr hrm 4 _ rfl
            have y5 : w3.cell? ⟨b, off + i * 6 + 5, none⟩ = some (.int .i64 r.dot.seq) := rows_cell kBind hrr hrm 5 _ rfl
            clear hrr
            have v0 := hX.cell 0 _ rfl
            have v1 := hX.cell 1 _ rfl
            have v2 := hX.cell 2 _ rfl
            have v3 := hX.cell 3 _ rfl
            have v4 := hX.cell 4 _ rfl
            have v5 := hX.cell 5 _ rfl
            have f0 := hX.fr 0
            have f1 := hX.fr 1
            have f2 := hX.fr 2
            have f3 := hX.fr 3
            have f4 := hX.fr 4
            have f5 := hX.fr 5
            go_upto_region 9 with fail
            have hXs := ((((((hX.set 0 (.int .i64 r.id) (by simp)).set 1 (.string (str r.text)) (by simp)).set 2 (.int .i64 r.ver) (by simp)).set 3 (.int .i64 r.dot.dev) (by simp)).set 4 (.int .i64 r.dot.ep) (by simp)).set 5 (.int .i64 r.dot.seq) (by simp))
            have hxs : Ext (just gx) w3 ((((((w3.setCell ⟨gx, 0, none⟩ (.int .i64 r.id)).setCell ⟨gx, 1, none⟩ (.string (str r.text))).setCell ⟨gx, 2, none⟩ (.int .i64 r.ver)).setCell ⟨gx, 3, none⟩ (.int .i64 r.dot.dev)).setCell ⟨gx, 4, none⟩ (.int .i64 r.dot.ep)).setCell ⟨gx, 5, none⟩ (.int .i64 r.dot.seq)) := (((((Ext.setCell (S := just gx) w3 ⟨gx, 0, none⟩ (.int .i64 r.id) rfl).comp (Ext.setCell _ ⟨gx, 1, none⟩ (.string (str r.text)) rfl)).comp (Ext.setCell _ ⟨gx, 2, none⟩ (.int .i64 r.ver) rfl)).comp (Ext.setCell _ ⟨gx, 3, none⟩ (.int .i64 r.dot.dev) rfl)).comp (Ext.setCell _ ⟨gx, 4, none⟩ (.int .i64 r.dot.ep) rfl)).comp (Ext.setCell _ ⟨gx, 5, none⟩ (.int .i64 r.dot.seq) rfl)
            clear y0 y1 y2 y3 y4 y5 v0 f0 v1 f1 v2 f2 v3 f3 v4 f4 v5 f5
            generalize (((((w3.setCell ⟨gx, 0, none⟩ (.int .i64 r.id)).setCell ⟨gx, 1, none⟩ (.string (str r.text))).setCell ⟨gx, 2, none⟩ (.int .i64 r.ver)).setCell ⟨gx, 3, none⟩ (.int .i64 r.dot.dev)).setCell ⟨gx, 4, none⟩ (.int .i64 r.dot.ep)).setCell ⟨gx, 5, none⟩ (.int .i64 r.dot.seq) = w6s at *
            replace hX := hXs
            replace hW := hW.trans hxs (fun k hk e => by have e : k = gx := e; omega)
            replace hO := hO.ext (by simp) hxs (fun e => by have e : g = gx := e; omega)
            replace ho1 := ho1.ext hxs (fun ad h e => by have e : ad.block = gx := e; have := (ho1.base ad h).1; omega)
            replace hBs := Nat.le_trans hBs hxs.size
            clear hXs hxs
            have z0 := hX.cell 0 _ rfl
            have z1 := hX.cell 1 _ rfl
            have z2 := hX.cell 2 _ rfl
            have z3 := hX.cell 3 _ rfl
            have z4 := hX.cell 4 _ rfl
            have z5 := hX.cell 5 _ rfl
            have hX1 : Rd (w6s.alloc (.cells #[.int .i64 r.id, .string (str r.text), .int .i64 r.ver, .int .i64 r.dot.dev, .int .i64 r.dot.ep, .int .i64 r.dot.seq] 45)) (some ⟨w6s.heap.size, 0, none⟩) (BindR.cells r) := Rd.lit w6s #[.int .i64 r.id, .string (str r.text), .int .i64 r.ver, .int .i64 r.dot.dev, .int .i64 r.dot.ep, .int .i64 r.dot.seq] _ _
            go_wp2_with (at_builtin; refine wpList_append TBind rfl rfl rfl (ho1.alloc _) rfl hX1 rfl (one1Bind r) ?c1 ?c2 ?c3 ?_)
            case c1 => unfold maxLen; omega
            case c2 => omega
            case c3 => first | omega | (simp; omega)
            intro a2 c2 w7 hp2
            have ho2 := hp2.own
            clear z0 z1 z2 z3 z4 z5
            have hxB : Ext no w w7 := (hW.comp (Ext.alloc no _ _)).trans hp2.ext (fun k hk => by rintro ⟨ad, h, hb⟩; have := (ho1.base ad h).1; omega)
            have hzB : B ≤ w7.heap.size := Nat.le_trans hBs (Nat.le_trans (Ext.alloc no w6s (.cells #[.int .i64 r.id, .string (str r.text), .int .i64 r.ver, .int .i64 r.dot.dev, .int .i64 r.dot.ep, .int .i64 r.dot.seq] 45)).size hp2.ext.size)
            clear hp2 hX1 hX hO hW ho1
            have hcC : ∀ w, (Instr.sliceAt 30 (.slice (some ⟨b, off, none⟩) l.length lc) (some (.int .i64 ((i : Int) + 1))) none none).run Tryz.prog w = .ok (.slice (cutAt (some ⟨b, off, none⟩) lc (i + 1) 6) (l.length - (i + 1)) (lc - (i + 1))) w := fun w => run_cut_l TBind w (some ⟨b, off, none⟩) _ lc .i64 (i + 1) (by omega)
            have hf2 : Rd w7 (cutAt (some ⟨b, off, none⟩) lc (i + 1) 6) (rows BindR.cells (l.drop (i + 1))) := by have q := (hr.no hxB).cutAt lc (i + 1) 6 (fun e => by rw [rows_length kBind]; exact Nat.mul_le_mul_right _ (by omega)); rwa [rows_drop kBind] at q
            go_wp2_with (at_builtin; refine wpList_append TBind rfl rfl rfl ho2 rfl hf2 (by rw [rows_length kBind, List.length_drop]) (oneBind _) ?c1 ?c2 ?c3 ?_)
            case c1 => unfold maxLen; omega
            case c2 => omega
            case c3 => omega
            intro a3 c3 w8 hp3
            have ho3 := hp3.own
            have hxC : Ext no w w8 := hxB.trans hp3.ext (fun k hk => by rintro ⟨ad, h, hb⟩; have := (ho2.base ad h).1; omega)
            clear hp3 hf2 hcC
            go_wp2_with fail
            go_ret
            refine ⟨a3, c3, ?_, ?_, hxC⟩
            · rw [HR.out, splice_length _ _ _ _ hPl (by omega)]; rfl
            · rw [HR.out, splice_length _ _ _ _ hPl (by omega)]; unfold splice; rw [rows_append, rows_append, rows_one]; exact ho3.mono hB2
        · have d2 : (r.id == o.n) = false := by simpa using hk
          have HR := Lib.hid (show E = splice l i (i) (bindOf o) by rw [HE.out]; unfold refBind; rw [← HP.out, hrm]; simp only; rw [if_neg hk])
          clear hk
          go_upto_region 6 with fail
          go_quiet (fail)
          have hxq := Ext.drewN no w5 nq
          generalize w5.drewN nq = w6 at *
          replace hW := hW.comp hxq
          replace hO := hO.ext (by simp) hxq (fun h => h)
          replace hX := hX.ext (by simp) hxq (fun h => h)
          replace ho1 := ho1.ext hxq (fun _ _ h => h)
          replace hBs := Nat.le_trans hBs hxq.size
          clear hxq
          clear d1 d2 q8 y0 y1 y2 y3 y4 y5
          have z0 := hX.cell 0 _ rfl
          have z1 := hX.cell 1 _ rfl
          have z2 := hX.cell 2 _ rfl
          have z3 := hX.cell 3 _ rfl
          have z4 := hX.cell 4 _ rfl
          have z5 := hX.cell 5 _ rfl
          have hX1 : Rd (w6.alloc (.cells #[.int .i64 o.n, .string (str o.text), .int .i64 o.ver, .int .i64 o.dot.dev, .int .i64 o.dot.ep, .int .i64 o.dot.seq] 45)) (some ⟨w6.heap.size, 0, none⟩) (BindR.cells (bindOf o)) := Rd.lit w6 #[.int .i64 o.n, .string (str o.text), .int .i64 o.ver, .int .i64 o.dot.dev, .int .i64 o.dot.ep, .int .i64 o.dot.seq] _ _
          go_wp2_with (at_builtin; refine wpList_append TBind rfl rfl rfl (ho1.alloc _) rfl hX1 rfl (one1Bind (bindOf o)) ?c1 ?c2 ?c3 ?_)
          case c1 => unfold maxLen; omega
          case c2 => omega
          case c3 => first | omega | (simp; omega)
          intro a2 c2 w7 hp2
          have ho2 := hp2.own
          clear z0 z1 z2 z3 z4 z5
          have hxB : Ext no w w7 := (hW.comp (Ext.alloc no _ _)).trans hp2.ext (fun k hk => by rintro ⟨ad, h, hb⟩; have := (ho1.base ad h).1; omega)
          have hzB : B ≤ w7.heap.size := Nat.le_trans hBs (Nat.le_trans (Ext.alloc no w6 (.cells #[.int .i64 o.n, .string (str o.text), .int .i64 o.ver, .int .i64 o.dot.dev, .int .i64 o.dot.ep, .int .i64 o.dot.seq] 45)).size hp2.ext.size)
          clear hp2 hX1 hX hO hW ho1
          have hcC : ∀ w, (Instr.sliceAt 30 (.slice (some ⟨b, off, none⟩) l.length lc) (some (.int .i64 (i : Int))) none none).run Tryz.prog w = .ok (.slice (cutAt (some ⟨b, off, none⟩) lc (i) 6) (l.length - (i)) (lc - (i))) w := fun w => run_cut_l TBind w (some ⟨b, off, none⟩) _ lc .i64 (i) (by omega)
          have hf2 : Rd w7 (cutAt (some ⟨b, off, none⟩) lc (i) 6) (rows BindR.cells (l.drop (i))) := by have q := (hr.no hxB).cutAt lc (i) 6 (fun e => by rw [rows_length kBind]; exact Nat.mul_le_mul_right _ (by omega)); rwa [rows_drop kBind] at q
          go_wp2_with (at_builtin; refine wpList_append TBind rfl rfl rfl ho2 rfl hf2 (by rw [rows_length kBind, List.length_drop]) (oneBind _) ?c1 ?c2 ?c3 ?_)
          case c1 => unfold maxLen; omega
          case c2 => omega
          case c3 => omega
          intro a3 c3 w8 hp3
          have ho3 := hp3.own
          have hxC : Ext no w w8 := hxB.trans hp3.ext (fun k hk => by rintro ⟨ad, h, hb⟩; have := (ho2.base ad h).1; omega)
          clear hp3 hf2 hcC
          go_wp2_with fail
          go_ret
          refine ⟨a3, c3, ?_, ?_, hxC⟩
          · rw [HR.out, splice_length _ _ _ _ hPl (by omega)]; rfl
          · rw [HR.out, splice_length _ _ _ _ hPl (by omega)]; unfold splice; rw [rows_append, rows_append, rows_one]; exact ho3.mono hB2
      · have hiE : i = l.length := by omega
        have d1 : decide (i < l.length) = false := decF hPn
        have HR := Lib.hid (show E = splice l i i (bindOf o) by rw [HE.out]; unfold refBind; rw [← HP.out, List.getElem?_eq_none (by omega)])
        clear hiE
        go_upto_region 3 with fail
        go_quiet (fail)
        have hxq := Ext.drewN no wr nq
        generalize wr.drewN nq = wz at *
        replace hW := hW.comp hxq
        replace hO := hO.ext (by simp) hxq (fun h => h)
        replace hX := hX.ext (by simp) hxq (fun h => h)
        clear hxq
        clear q8
        have hA0 : Ext no w (wz.alloc (.cells #[] 45)) := hW.comp (Ext.alloc no _ _)
        have hf : Rd (wz.alloc (.cells #[] 45)) la (rows BindR.cells (l.take i)) := by have q := (hr.no hA0).take (i * 6); rwa [rows_take kBind] at q
        obtain ⟨B, hB⟩ : ∃ B, B = wz.heap.size := ⟨_, rfl⟩
        have hz : Own (wz.alloc (.cells #[] 45)) B (some ⟨wz.heap.size, 0, none⟩) 6 0 0 [] := by rw [hB]; exact Own.fresh wz _ _ _ _ _ _ _ _ (Nat.le_refl _) (by simp) (Nat.le_refl _) (Nat.zero_le _) (by simp) (by simp) (.inl (Nat.le_refl _))
        have hcA : ∀ w, (Instr.sliceAt 30 (.slice la l.length lc) none (some (.int .i64 (i : Int))) none).run Tryz.prog w = .ok (.slice la i lc) w := fun w => run_cut_h TBind w la _ lc .i64 i (by omega)
        have hB1 : gx < B := by have := hX.lt (by simp); omega
        have hB2 : w.heap.size ≤ B := by omega
        have hB3 : B ≤ wz.heap.size := by omega
        have hB4 : wz.heap.size ≤ B := by omega
        clear hB
        go_wp2_with (at_builtin; refine wpList_append TBind rfl rfl rfl hz rfl hf (by rw [rows_length kBind, List.length_take]; congr 1; omega) (oneBind _) ?c1 ?c2 (by simp; omega) ?_)
        case c1 => unfold maxLen; omega
        case c2 => omega
        intro a1 c1 w5 hp1
        try rw [Nat.zero_add]
        have ho1 := hp1.own
        rw [Nat.zero_add, List.nil_append] at ho1
        have hxA : Ext no wz w5 := (Ext.alloc no _ _).trans hp1.ext (fun k hk => by rintro ⟨ad, h, hb⟩; cases h; simp only at hb; omega)
        have hBs : B ≤ w5.heap.size := by have := hxA.size; omega
        clear hp1 hz hf hcA hB3 hB4 hA0
        replace hW := hW.comp hxA
        replace hO := hO.ext (by simp) hxA (fun h => h)
        replace hX := hX.ext (by simp) hxA (fun h => h)
        clear hxA
        have q8 := hO.cell 8 _ rfl
        go_upto_region 6 with fail
        go_quiet (fail)
        have hxq := Ext.drewN no w5 nq
        generalize w5.drewN nq = w6 at *
        replace hW := hW.comp hxq
        replace hO := hO.ext (by simp) hxq (fun h => h)
        replace hX := hX.ext (by simp) hxq (fun h => h)
        replace ho1 := ho1.ext hxq (fun _ _ h => h)
        replace hBs := Nat.le_trans hBs hxq.size
        clear hxq
        clear d1 q8
        have z0 := hX.cell 0 _ rfl
        have z1 := hX.cell 1 _ rfl
        have z2 := hX.cell 2 _ rfl
        have z3 := hX.cell 3 _ rfl
        have z4 := hX.cell 4 _ rfl
        have z5 := hX.cell 5 _ rfl
        have hX1 : Rd (w6.alloc (.cells #[.int .i64 o.n, .string (str o.text), .int .i64 o.ver, .int .i64 o.dot.dev, .int .i64 o.dot.ep, .int .i64 o.dot.seq] 45)) (some ⟨w6.heap.size, 0, none⟩) (BindR.cells (bindOf o)) := Rd.lit w6 #[.int .i64 o.n, .string (str o.text), .int .i64 o.ver, .int .i64 o.dot.dev, .int .i64 o.dot.ep, .int .i64 o.dot.seq] _ _
        go_wp2_with (at_builtin; refine wpList_append TBind rfl rfl rfl (ho1.alloc _) rfl hX1 rfl (one1Bind (bindOf o)) ?c1 ?c2 ?c3 ?_)
        case c1 => unfold maxLen; omega
        case c2 => omega
        case c3 => first | omega | (simp; omega)
        intro a2 c2 w7 hp2
        have ho2 := hp2.own
        clear z0 z1 z2 z3 z4 z5
        have hxB : Ext no w w7 := (hW.comp (Ext.alloc no _ _)).trans hp2.ext (fun k hk => by rintro ⟨ad, h, hb⟩; have := (ho1.base ad h).1; omega)
        have hzB : B ≤ w7.heap.size := Nat.le_trans hBs (Nat.le_trans (Ext.alloc no w6 (.cells #[.int .i64 o.n, .string (str o.text), .int .i64 o.ver, .int .i64 o.dot.dev, .int .i64 o.dot.ep, .int .i64 o.dot.seq] 45)).size hp2.ext.size)
        clear hp2 hX1 hX hO hW ho1
        have hcC : ∀ w, (Instr.sliceAt 30 (.slice la l.length lc) (some (.int .i64 (i : Int))) none none).run Tryz.prog w = .ok (.slice (cutAt la lc (i) 6) (l.length - (i)) (lc - (i))) w := fun w => run_cut_l TBind w la _ lc .i64 (i) (by omega)
        have hf2 : Rd w7 (cutAt la lc (i) 6) (rows BindR.cells (l.drop (i))) := by have q := (hr.no hxB).cutAt lc (i) 6 (fun e => by rw [rows_length kBind]; exact Nat.mul_le_mul_right _ (by omega)); rwa [rows_drop kBind] at q
        go_wp2_with (at_builtin; refine wpList_append TBind rfl rfl rfl ho2 rfl hf2 (by rw [rows_length kBind, List.length_drop]) (oneBind _) ?c1 ?c2 ?c3 ?_)
        case c1 => unfold maxLen; omega
        case c2 => omega
        case c3 => omega
        intro a3 c3 w8 hp3
        have ho3 := hp3.own
        have hxC : Ext no w w8 := hxB.trans hp3.ext (fun k hk => by rintro ⟨ad, h, hb⟩; have := (ho2.base ad h).1; omega)
        clear hp3 hf2 hcC
        go_wp2_with fail
        go_ret
        refine ⟨a3, c3, ?_, ?_, hxC⟩
        · rw [HR.out, splice_length _ _ _ _ hPl (by omega)]; rfl
        · rw [HR.out, splice_length _ _ _ _ hPl (by omega)]; unfold splice; rw [rows_append, rows_append, rows_one]; exact ho3.mono hB2
set_option maxRecDepth 100000 in
set_option maxHeartbeats 8000000 in
theorem refset_any (w : World) (la : Option Addr) (l : List RegR) (lc : Nat) (o : OpR) (a : Option Addr) (c : Nat) (hr : Rd w la (rows RegR.cells l)) (hl : l.length ≤ 1099511627775) (hlc : l.length ≤ lc) :
    Calls Tryz.prog 30 #[.slice la l.length lc, o.v a c] w fun e w' => ∃ a' c', e = .returned (.slice a' (refSet l o).length c') ∧ Own w' w.heap.size a' 7 (refSet l o).length c' (rows RegR.cells (refSet l o)) ∧ Ext no w w' := by
  obtain ⟨E, hE⟩ : ∃ E, E = refSet l o := ⟨_, rfl⟩
  rw [← hE]
  have HE := Lib.hid hE
  clear hE
  obtain ⟨P, hP⟩ : ∃ P, P = posOf RegR.key Op.bytesLess o.key l := ⟨_, rfl⟩
  have hPl : P ≤ l.length := by rw [hP]; exact posOf_le _ _
  have HL := Lib.hid (show ∀ (j : Nat) x, j < P → l[j]? = some x → Op.bytesLess (RegR.key x) o.key = true by rw [hP]; exact pos_lt _ _)
  have HA := Lib.hid (show ∀ x, l[P]? = some x → Op.bytesLess (RegR.key x) o.key = false by rw [hP]; exact pos_at _ _)
  have HP := Lib.hid hP
  clear hP
  go_enter Tryz.func30, Tryz.ntmps30
  unfold OpR.v
  go_upto_region 1 with fail
  have hO := Blk.lit w #[.int .i64 o.dot.dev, .int .i64 o.dot.ep, .int .i64 o.dot.seq, .int .i64 o.coll, .int .i64 o.ver, .int .i64 o.kind, .string (str o.key), .string (str o.text), .int .i64 o.n, .int .i64 o.time, .slice a o.dots.length c] 51
  have hW := Ext.alloc no w (.cells #[.int .i64 o.dot.dev, .int .i64 o.dot.ep, .int .i64 o.dot.seq, .int .i64 o.coll, .int .i64 o.ver, .int .i64 o.kind, .string (str o.key), .string (str o.text), .int .i64 o.n, .int .i64 o.time, .slice a o.dots.length c] 51)
  have hz1 := hO.lt (by simp)
  generalize w.alloc (.cells #[.int .i64 o.dot.dev, .int .i64 o.dot.ep, .int .i64 o.dot.seq, .int .i64 o.coll, .int .i64 o.ver, .int .i64 o.kind, .string (str o.key), .string (str o.text), .int .i64 o.n, .int .i64 o.time, .slice a o.dots.length c] 51) = w1 at *
  obtain ⟨g, hg⟩ : ∃ g, g = w.heap.size := ⟨_, rfl⟩
  have hgw : w.heap.size ≤ g := by omega
  rw [← hg] at hO hz1 ⊢
  clear hg
  have q0 := hO.cell 0 _ rfl
  have q1 := hO.cell 1 _ rfl
  have q2 := hO.cell 2 _ rfl
  have q3 := hO.cell 3 _ rfl
  have q4 := hO.cell 4 _ rfl
  have q5 := hO.cell 5 _ rfl
  have q6 := hO.cell 6 _ rfl
  have q7 := hO.cell 7 _ rfl
  have q8 := hO.cell 8 _ rfl
  have q9 := hO.cell 9 _ rfl
  have q10 := hO.cell 10 _ rfl
  go_upto_region 2 with fail
  have hX := Blk.lit w1 #[.string (str o.key), .string (str o.text), .int .i64 o.ver, .int .i64 o.time, .int .i64 o.dot.dev, .int .i64 o.dot.ep, .int .i64 o.dot.seq] 41
  have hxX := Ext.alloc no w1 (.cells #[.string (str o.key), .string (str o.text), .int .i64 o.ver, .int .i64 o.time, .int .i64 o.dot.dev, .int .i64 o.dot.ep, .int .i64 o.dot.seq] 41)
  replace hO := hO.ext (by simp) hxX (fun h => h)
  replace hW := hW.comp hxX
  generalize w1.alloc (.cells #[.string (str o.key), .string (str o.text), .int .i64 o.ver, .int .i64 o.time, .int .i64 o.dot.dev, .int .i64 o.dot.ep, .int .i64 o.dot.seq] 41) = w2 at *
  obtain ⟨gx, hgx⟩ : ∃ gx, gx = w1.heap.size := ⟨_, rfl⟩
  have hgx1 : w.heap.size ≤ gx := by omega
  have hgx2 : g < gx := by omega
  rw [← hgx] at hX ⊢
  clear hxX hgx hz1 q0 q1 q2 q3 q4 q5 q6 q7 q8 q9 q10
  have hXl := hX.lt (by simp)
  go_wp2_with fail
  go_loopw [6] (fun s6 wr => ∃ i : Nat, s6 = .int .i64 i ∧ i ≤ P ∧ Ext no w2 wr) (fun s6 _ => l.length - (intOf s6).toNat)
  case atStart => exact ⟨0, rfl, Nat.zero_le _, Ext.refl _ _⟩
  case round =>
    obtain ⟨i, rfl, hiP, hx⟩ := hrel
    have hx0 := hx
    replace hW := hW.comp hx
    replace hO := hO.ext (by simp) hx (fun h => h)
    replace hX := hX.ext (by simp) hx (fun h => h)
    clear hx
    have q6 := hO.cell 6 _ rfl
    by_cases hin : i < P
    · have hil : i < l.length := by omega
      have d1 : decide (i < l.length) = true := decT hil
      obtain ⟨x, hxm⟩ : ∃ x, l[i]? = some x := ⟨_, List.getElem?_eq_getElem (by omega)⟩
      have d2 : Op.bytesLess (str x.key).toList (str o.key).toList = true := by rw [toList_str, toList_str]; exact HL.out i x hin hxm
      obtain ⟨b, off, hsa, _⟩ := rows_shape kReg (by omega) hr (by omega)
      have hrr := hr.no hW
      rw [hsa] at hrr
      have y0 : wr.cell? ⟨b, off + i * 7, none⟩ = some (.string (str x.key)) := rows_cell kReg hrr hxm 0 _ rfl
      have y1 : wr.cell? ⟨b, off + i * 7 + 1, none⟩ = some (.string (str x.text)) := rows_cell kReg hrr hxm 1 _ rfl
      have y2 : wr.cell? ⟨b, off + i * 7 + 2, none⟩ = some (.int .i64 x.ver) := rows_cell kReg hrr hxm 2 _ rfl
      have y3 : wr.cell? ⟨b, off + i * 7 + 3, none⟩ = some (.int .i64 x.time) := rows_cell kReg hrr hxm 3 _ rfl
      have y4 : wr.cell? ⟨b, off + i * 7 + 4, none⟩ = some (.int .i64 x.dot.dev) := rows_cell kReg hrr hxm 4 _ rfl
      have y5 : wr.cell? ⟨b, off + i * 7 + 5, none⟩ = some (.int .i64 x.dot.ep) := rows_cell kReg hrr hxm 5 _ rfl
      have y6 : wr.cell? ⟨b, off + i * 7 + 6, none⟩ = some (.int .i64 x.dot.seq) := rows_cell kReg hrr hxm 6 _ rfl
      clear hrr
      subst hsa
      clear hxm
      go_upto_region 3 with fail
      go_quiet (fail)
      have hx0 := hx0.comp (Ext.drewN no wr nq)
      generalize wr.drewN nq = wz at *
      go_wp2_with fail
      go_roundw
      case rel => exact ⟨i + 1, by go_num, by omega, hx0⟩
      case measure => simp [intOf]; omega
    · have hiP2 : i = P := by omega
      subst hiP2
      clear hx0 hin hiP
      by_cases hPn : i < l.length
      · obtain ⟨r, hrm⟩ : ∃ r, l[i]? = some r := ⟨_, List.getElem?_eq_getElem hPn⟩
        have d1 : decide (i < l.length) = true := decT hPn
        have d2 : Op.bytesLess (str r.key).toList (str o.key).toList = false := by rw [toList_str, toList_str]; exact HA.out r hrm
        obtain ⟨b, off, hsa, _⟩ := rows_shape kReg (by omega) hr (by omega)
        have hrr := hr.no hW
        rw [hsa] at hrr
        have y0 : wr.cell? ⟨b, off + i * 7, none⟩ = some (.string (str r.key)) := rows_cell kReg hrr hrm 0 _ rfl
        have y1 : wr.cell? ⟨b, off + i * 7 + 1, none⟩ = some (.string (str r.text)) := rows_cell kReg hrr hrm 1 _ rfl
        have y2 : wr.cell? ⟨b, off + i * 7 + 2, none⟩ = some (.int .i64 r.ver) := rows_cell kReg hrr hrm 2 _ rfl
        have y3 : wr.cell? ⟨b, off + i * 7 + 3, none⟩ = some (.int .i64 r.time) := rows_cell kReg hrr hrm 3 _ rfl
        have y4 : wr.cell? ⟨b, off + i * 7 + 4, none⟩ = some (.int .i64 r.dot.dev) := rows_cell kReg hrr hrm 4 _ rfl
        have y5 : wr.cell? ⟨b, off + i * 7 + 5, none⟩ = some (.int .i64 r.dot.ep) := rows_cell kReg hrr hrm 5 _ rfl
        have y6 : wr.cell? ⟨b, off + i * 7 + 6, none⟩ = some (.int .i64 r.dot.seq) := rows_cell kReg hrr hrm 6 _ rfl
        clear hrr
        have hsa' := hsa
        subst hsa
        go_upto_region 3 with fail
        go_quiet (fail)
        have hxq := Ext.drewN no wr nq
        generalize wr.drewN nq = wz at *
        replace hW := hW.comp hxq
        replace hO := hO.ext (by simp) hxq (fun h => h)
        replace hX := hX.ext (by simp) hxq (fun h => h)
        clear hxq
        clear q6 d2 y0 y1 y2 y3 y4 y5 y6
        clear hsa'
        have hA0 : Ext no w (wz.alloc (.cells #[] 41)) := hW.comp (Ext.alloc no _ _)
        have hf : Rd (wz.alloc (.cells #[] 41)) (some ⟨b, off, none⟩) (rows RegR.cells (l.take i)) := by have q := (hr.no hA0).take (i * 7); rwa [rows_take kReg] at q
        obtain ⟨B, hB⟩ : ∃ B, B = wz.heap.size := ⟨_, rfl⟩
        have hz : Own (wz.alloc (.cells #[] 41)) B (some ⟨wz.heap.size, 0, none⟩) 7 0 0 [] := by rw [hB]; exact Own.fresh wz _ _ _ _ _ _ _ _ (Nat.le_refl _) (by simp) (Nat.le_refl _) (Nat.zero_le _) (by simp) (by simp) (.inl (Nat.le_refl _))
        have hcA : ∀ w, (Instr.sliceAt 26 (.slice (some ⟨b, off, none⟩) l.length lc) none (some (.int .i64 (i : Int))) none).run Tryz.prog w = .ok (.slice (some ⟨b, off, none⟩) i lc) w := fun w => run_cut_h TReg w (some ⟨b, off, none⟩) _ lc .i64 i (by omega)
        have hB1 : gx < B := by have := hX.lt (by simp); omega
        have hB2 : w.heap.size ≤ B := by omega
        have hB3 : B ≤ wz.heap.size := by omega
        have hB4 : wz.heap.size ≤ B := by omega
        clear hB
        go_wp2_with (at_builtin; refine wpList_append TReg rfl rfl rfl hz rfl hf (by rw [rows_length kReg, List.length_take]; congr 1; omega) (oneReg _) ?c1 ?c2 (by simp; omega) ?_)
        case c1 => unfold maxLen; omega
        case c2 => omega
        intro a1 c1 w5 hp1
        try rw [Nat.zero_add]
        have ho1 := hp1.own
        rw [Nat.zero_add, List.nil_append] at ho1
        have hxA : Ext no wz w5 := (Ext.alloc no _ _).trans hp1.ext (fun k hk => by rintro ⟨ad, h, hb⟩; cases h; simp only at hb; omega)
        have hBs : B ≤ w5.heap.size := by have := hxA.size; omega
        clear hp1 hz hf hcA hB3 hB4 hA0
        replace hW := hW.comp hxA
        replace hO := hO.ext (by simp) hxA (fun h => h)
        replace hX := hX.ext (by simp) hxA (fun h => h)
        clear hxA
        have hrr := hr.no hW
        have y0 : w5.cell? ⟨b, off + i * 7, none⟩ = some (.string (str r.key)) := rows_cell kReg hrr hrm 0 _ rfl
        have y1 : w5.cell? ⟨b, off + i * 7 + 1, none⟩ = some (.string (str r.text)) := rows_cell kReg hrr hrm 1 _ rfl
        have y2 : w5.cell? ⟨b, off + i * 7 + 2, none⟩ = some (.int .i64 r.ver) := rows_cell kReg hrr hrm 2 _ rfl
        have y3 : w5.cell? ⟨b, off + i * 7 + 3, none⟩ = some (.int .i64 r.time) := rows_cell kReg hrr hrm 3 _ rfl
        have y4 : w5.cell? ⟨b, off + i * 7 + 4, none⟩ = some (.int .i64 r.dot.dev) := rows_cell kReg hrr hrm 4 _ rfl
        have y5 : w5.cell? ⟨b, off + i * 7 + 5, none⟩ = some (.int .i64 r.dot.ep) := rows_cell kReg hrr hrm 5 _ rfl
        have y6 : w5.cell? ⟨b, off + i * 7 + 6, none⟩ = some (.int .i64 r.dot.seq) := rows_cell kReg hrr hrm 6 _ rfl
        clear hrr
        have q6 := hO.cell 6 _ rfl
        by_cases hk : r.key = o.key
        · have d2 : ((str r.key).toList == (str o.key).toList) = true := beqStrT hk
          have Hk := Lib.hid hk
          clear hk
          go_upto_region 6 with fail
          go_quiet (fail)
          have hxq := Ext.drewN no w5 nq
          generalize w5.drewN nq = w6 at *
          replace hW := hW.comp hxq
          replace hO := hO.ext (by simp) hxq (fun h => h)
          replace hX := hX.ext (by simp) hxq (fun h => h)
          replace ho1 := ho1.ext hxq (fun _ _ h => h)
          replace hBs := Nat.le_trans hBs hxq.size
          clear hxq
          clear d1 d2 q6 y0 y1 y2 y3 y4 y5 y6
          have hrr := hr.no hW
          have y0 : w6.cell? ⟨b, off + i * 7, none⟩ = some (.string (str r.key)) := rows_cell kReg hrr hrm 0 _ rfl
          have y1 : w6.cell? ⟨b, off + i * 7 + 1, none⟩ = some (.string (str r.text)) := rows_cell kReg hrr hrm 1 _ rfl
          have y2 : w6.cell? ⟨b, off + i * 7 + 2, none⟩ = some (.int .i64 r.ver) := rows_cell kReg hrr hrm 2 _ rfl
          have y3 : w6.cell? ⟨b, off + i * 7 + 3, none⟩ = some (.int .i64 r.time) := rows_cell kReg hrr hrm 3 _ rfl
          have y4 : w6.cell? ⟨b, off + i * 7 + 4, none⟩ = some (.int .i64 r.dot.dev) := rows_cell kReg hrr hrm 4 _ rfl
          have y5 : w6.cell? ⟨b, off + i * 7 + 5, none⟩ = some (.int .i64 r.dot.ep) := rows_cell kReg hrr hrm 5 _ rfl
          have y6 : w6.cell? ⟨b, off + i * 7 + 6, none⟩ = some (.int .i64 r.dot.seq) := rows_cell kReg hrr hrm 6 _ rfl
          clear hrr
          have q0 := hO.cell 0 _ rfl
          have q1 := hO.cell 1 _ rfl
          have q2 := hO.cell 2 _ rfl
          have q9 := hO.cell 9 _ rfl
          have d1 : decide (i < l.length) = true := decT hPn
          by_cases t1 : o.time < r.time
          · have t1' : decide (o.time < r.time) = true := decT t1
            have HR := Lib.hid (show E = splice l i (i + 1) r by rw [HE.out]; unfold refSet; rw [← HP.out, hrm]; simp only; rw [if_pos Hk.out]; unfold refSetX; rw [t1']; rfl)
            clear t1
            go_upto_region 7 with fail
            refine wp_region_F [4, 6] (looks [(4, fun z => Ext no w6 z), (6, fun z => Ext no w6 z)]) (by kernel_rfl) ?_
            have hT0 : ∀ k, looks [(4, fun z => Ext no w6 z), (6, fun z => Ext no w6 z)] k (w6.drew) := looks_all ⟨Ext.drew no w6, Ext.drew no w6, trivial⟩
            refine wpF_take 0 (v := ?_) rfl (by kernel_rfl) (by kernel_rfl) (by kernel_rfl) (fun _ _ _ h => h) hT0 (by rfl) ?_ ?_
            rotate_left
            · (intro wq; go_simp; try with_reducible rfl)
            simp only [pz]
            refine wpF_take 1 (v := ?_) rfl (by kernel_rfl) (by kernel_rfl) (by kernel_rfl) (fun _ _ _ h => h) hT0 (by rfl) ?_ ?_
            rotate_left
            · (intro wq; go_simp; try with_reducible rfl)
            simp only [pz]
            refine wpF_take 2 (v := .pointer (some ⟨b, off + i * 7, none⟩)) rfl (by kernel_rfl) (by kernel_rfl) (by kernel_rfl) (fun _ _ _ h => h) hT0 (by rfl) (by intro wq; go_simp) ?_
            simp only [pz]
            refine wpF_take 3 (v := ?_) rfl (by kernel_rfl) (by kernel_rfl) (by kernel_rfl) (fun _ _ _ h => h) hT0 (by rfl) ?_ ?_
            rotate_left
            · (intro wq; go_simp; try with_reducible rfl)
            simp only [pz]
            refine wpF_look 4 (v := .int .i64 r.time) rfl rfl (by kernel_rfl) (by kernel_rfl) (by kernel_rfl) (by kernel_rfl) (fun _ _ _ h => h) hT0 (by rfl) (fun w hS => by have hS : Ext no w6 w := hS; have q0 := hS.keeps y3 (fun h => h); go_simp) ?_
            simp only [pz]
            refine wpF_take 5 (v := ?_) rfl (by kernel_rfl) (by kernel_rfl) (by kernel_rfl) (fun _ _ _ h => h) hT0 (by rfl) ?_ ?_
            rotate_left
            · (intro wq; go_simp; try with_reducible rfl)
            simp only [pz]
            refine wpF_look 6 (v := .int .i64 o.time) rfl rfl (by kernel_rfl) (by kernel_rfl) (by kernel_rfl) (by kernel_rfl) (fun _ _ _ h => h) hT0 (by rfl) (fun w hS => by have hS : Ext no w6 w := hS; have q0 := hS.keeps q9 (fun h => h); go_simp) ?_
            simp only [pz]
            refine wpF_take 7 (v := .bool true) rfl (by kernel_rfl) (by kernel_rfl) (by kernel_rfl) (fun _ _ _ h => h) hT0 (by rfl) (by intro wq; go_simp; first | done | rfl) ?_
            simp only [pz]
            refine wpF_take 8 (v := ?_) rfl (by kernel_rfl) (by kernel_rfl) (by kernel_rfl) (fun _ _ _ h => h) hT0 (by rfl) ?_ ?_
            rotate_left
            · (intro wq; go_simp; try with_reducible rfl)
            simp only [pz]
            refine wpF_skip 9 rfl (by kernel_rfl) (by kernel_rfl) (by kernel_rfl) (fun _ _ _ h => h) hT0 (by rfl) ?_
            simp only [pz]
            refine wpF_skip 10 rfl (by kernel_rfl) (by kernel_rfl) (by kernel_rfl) (fun _ _ _ h => h) hT0 (by rfl) ?_
            simp only [pz]
            refine wpF_skip 11 rfl (by kernel_rfl) (by kernel_rfl) (by kernel_rfl) (fun _ _ _ h => h) hT0 (by rfl) ?_
            simp only [pz]
            refine wpF_skip 12 rfl (by kernel_rfl) (by kernel_rfl) (by kernel_rfl) (fun _ _ _ h => h) hT0 (by rfl) ?_
            simp only [pz]
            refine wpF_skip 13 rfl (by kernel_rfl) (by kernel_rfl) (by kernel_rfl) (fun _ _ _ h => h) hT0 (by rfl) ?_
            simp only [pz]
            refine wpF_skip 14 rfl (by kernel_rfl) (by kernel_rfl) (by kernel_rfl) (fun _ _ _ h => h) hT0 (by rfl) ?_
            simp only [pz]
            refine wpF_skip 15 rfl (by kernel_rfl) (by kernel_rfl) (by kernel_rfl) (fun _ _ _ h => h) hT0 (by rfl) ?_
            simp only [pz]
            refine wpF_skip 16 rfl (by kernel_rfl) (by kernel_rfl) (by kernel_rfl) (fun _ _ _ h => h) hT0 (by rfl) ?_
            simp only [pz]
            refine wpF_skip 17 rfl (by kernel_rfl) (by kernel_rfl) (by kernel_rfl) (fun _ _ _ h => h) hT0 (by rfl) ?_
            simp only [pz]
            refine wpF_skip 18 rfl (by kernel_rfl) (by kernel_rfl) (by kernel_rfl) (fun _ _ _ h => h) hT0 (by rfl) ?_
            simp only [pz]
            refine wpF_skip 19 rfl (by kernel_rfl) (by kernel_rfl) (by kernel_rfl) (fun _ _ _ h => h) hT0 (by rfl) ?_
            simp only [pz]
            refine wpF_skip 20 rfl (by kernel_rfl) (by kernel_rfl) (by kernel_rfl) (fun _ _ _ h => h) hT0 (by rfl) ?_
            simp only [pz]
            refine wpF_skip 21 rfl (by kernel_rfl) (by kernel_rfl) (by kernel_rfl) (fun _ _ _ h => h) hT0 (by rfl) ?_
            simp only [pz]
            refine wpF_skip 22 rfl (by kernel_rfl) (by kernel_rfl) (by kernel_rfl) (fun _ _ _ h => h) hT0 (by rfl) ?_
            simp only [pz]
            refine wpF_skip 23 rfl (by kernel_rfl) (by kernel_rfl) (by kernel_rfl) (fun _ _ _ h => h) hT0 (by rfl) ?_
            simp only [pz]
            refine wpF_skip 24 rfl (by kernel_rfl) (by kernel_rfl) (by kernel_rfl) (fun _ _ _ h => h) hT0 (by rfl) ?_
            simp only [pz]
            refine wpF_skip 25 rfl (by kernel_rfl) (by kernel_rfl) (by kernel_rfl) (fun _ _ _ h => h) hT0 (by rfl) ?_
            simp only [pz]
            refine wpF_skip 26 rfl (by kernel_rfl) (by kernel_rfl) (by kernel_rfl) (fun _ _ _ h => h) hT0 (by rfl) ?_
            simp only [pz]
            refine wpF_take 27 (v := ?_) rfl (by kernel_rfl) (by kernel_rfl) (by kernel_rfl) (fun _ _ _ h => h) hT0 (by rfl) ?_ ?_
            rotate_left
            · (intro wq; go_simp; try with_reducible rfl)
            simp only [pz]
            refine wpF_done (by kernel_rfl) ?_ _
            have hx3 := Ext.drew no w6
            generalize w6.drew = w3 at *
            clear q0 q1 q2 q9 y0 y1 y2 y3 y4 y5 y6
            replace hW := hW.comp hx3
            replace hO := hO.ext (by simp) hx3 (fun h => h)
            replace hX := hX.ext (by simp) hx3 (fun h => h)
            replace ho1 := ho1.ext hx3 (fun _ _ h => h)
            replace hBs := Nat.le_trans hBs hx3.size
            clear hx3
            have hrr := hr.no hW
            have y0 : w3.cell? ⟨b, off + i * 7, none⟩ = some (.string (str r.key)) := rows_cell kReg hrr hrm 0 _ rfl
            have y1 : w3.cell? ⟨b, off + i * 7 + 1, none⟩ = some (.string (str r.text)) := rows_cell kReg hrr hrm 1 _ rfl
            have y2 : w3.cell? ⟨b, off + i * 7 + 2, none⟩ = some (.int .i64 r.ver) := rows_cell kReg hrr hrm 2 _ rfl
            have y3 : w3.cell? ⟨b, off + i * 7 + 3, none⟩ = some (.int .i64 r.time) := rows_cell kReg hrr hrm 3 _ rfl
            have y4 : w3.cell? ⟨b, off + i * 7 + 4, none⟩ = some (.int .i64 r.dot.dev) := rows_cell kReg hrr hrm 4 _ rfl
            have y5 : w3.cell? ⟨b, off + i * 7 + 5, none⟩ = some (.int .i64 r.dot.ep) := rows_cell kReg hrr hrm 5 _ rfl
            have y6 : w3.cell? ⟨b, off + i * 7 + 6, none⟩ = some (.int .i64 r.dot.seq) := rows_cell kReg hrr hrm 6 _ rfl
            clear hrr
            have v0 := hX.cell 0 _ rfl
            have v1 := hX.cell 1 _ rfl
            have v2 := hX.cell 2 _ rfl
            have v3 := hX.cell 3 _ rfl
            have v4 := hX.cell 4 _ rfl
            have v5 := hX.cell 5 _ rfl
            have v6 := hX.cell 6 _ rfl
            have f0 := hX.fr 0
            have f1 := hX.fr 1
            have f2 := hX.fr 2
            have f3 := hX.fr 3
            have f4 := hX.fr 4
            have f5 := hX.fr 5
            have f6 := hX.fr 6
            go_upto_region 9 with fail
            have hXs := (((((((hX.set 0 (.string (str r.key)) (by simp)).set 1 (.string (str r.text)) (by simp)).set 2 (.int .i64 r.ver) (by simp)).set 3 (.int .i64 r.time) (by simp)).set 4 (.int .i64 r.dot.dev) (by simp)).set 5 (.int .i64 r.dot.ep) (by simp)).set 6 (.int .i64 r.dot.seq) (by simp))
            have hxs : Ext (just gx) w3 (((((((w3.setCell ⟨gx, 0, none⟩ (.string (str r.key))).setCell ⟨gx, 1, none⟩ (.string (str r.text))).setCell ⟨gx, 2, none⟩ (.int .i64 r.ver)).setCell ⟨gx, 3, none⟩ (.int .i64 r.time)).setCell ⟨gx, 4, none⟩ (.int .i64 r.dot.dev)).setCell ⟨gx, 5, none⟩ (.int .i64 r.dot.ep)).setCell ⟨gx, 6, none⟩ (.int .i64 r.dot.seq)) := ((((((Ext.setCell (S := just gx) w3 ⟨gx, 0, none⟩ (.string (str r.key)) rfl).comp (Ext.setCell _ ⟨gx, 1, none⟩ (.string (str r.text)) rfl)).comp (Ext.setCell _ ⟨gx, 2, none⟩ (.int .i64 r.ver) rfl)).comp (Ext.setCell _ ⟨gx, 3, none⟩ (.int .i64 r.time) rfl)).comp (Ext.setCell _ ⟨gx, 4, none⟩ (.int .i64 r.dot.dev) rfl)).comp (Ext.setCell _ ⟨gx, 5, none⟩ (.int .i64 r.dot.ep) rfl)).comp (Ext.setCell _ ⟨gx, 6, none⟩ (.int .i64 r.dot.seq) rfl)
            clear y0 y1 y2 y3 y4 y5 y6 v0 f0 v1 f1 v2 f2 v3 f3 v4 f4 v5 f5 v6 f6
            generalize ((((((w3.setCell ⟨gx, 0, none⟩ (.string (str r.key))).setCell ⟨gx, 1, none⟩ (.string (str r.text))).setCell ⟨gx, 2, none⟩ (.int .i64 r.ver)).setCell ⟨gx, 3, none⟩ (.int .i64 r.time)).setCell ⟨gx, 4, none⟩ (.int .i64 r.dot.dev)).setCell ⟨gx, 5, none⟩ (.int .i64 r.dot.ep)).setCell ⟨gx, 6, none⟩ (.int .i64 r.dot.seq) = w6s at *
            replace hX := hXs
            replace hW := hW.trans hxs (fun k hk e => by have e : k = gx := e; omega)
            replace hO := hO.ext (by simp) hxs (fun e => by have e : g = gx := e; omega)
            replace ho1 := ho1.ext hxs (fun ad h e => by have e : ad.block = gx := e; have := (ho1.base ad h).1; omega)
            replace hBs := Nat.le_trans hBs hxs.size
            clear hXs hxs
            have z0 := hX.cell 0 _ rfl
            have z1 := hX.cell 1 _ rfl
            have z2 := hX.cell 2 _ rfl
            have z3 := hX.cell 3 _ rfl
            have z4 := hX.cell 4 _ rfl
            have z5 := hX.cell 5 _ rfl
            have z6 := hX.cell 6 _ rfl
            have hX1 : Rd (w6s.alloc (.cells #[.string (str r.key), .string (str r.text), .int .i64 r.ver, .int .i64 r.time, .int .i64 r.dot.dev, .int .i64 r.dot.ep, .int .i64 r.dot.seq] 41)) (some ⟨w6s.heap.size, 0, none⟩) (RegR.cells r) := Rd.lit w6s #[.string (str r.key), .string (str r.text), .int .i64 r.ver, .int .i64 r.time, .int .i64 r.dot.dev, .int .i64 r.dot.ep, .int .i64 r.dot.seq] _ _
            go_wp2_with (at_builtin; refine wpList_append TReg rfl rfl rfl (ho1.alloc _) rfl hX1 rfl (one1Reg r) ?c1 ?c2 ?c3 ?_)
            case c1 => unfold maxLen; omega
            case c2 => omega
            case c3 => first | omega | (simp; omega)
            intro a2 c2 w7 hp2
            have ho2 := hp2.own
            clear z0 z1 z2 z3 z4 z5 z6
            have hxB : Ext no w w7 := (hW.comp (Ext.alloc no _ _)).trans hp2.ext (fun k hk => by rintro ⟨ad, h, hb⟩; have := (ho1.base ad h).1; omega)
            have hzB : B ≤ w7.heap.size := Nat.le_trans hBs (Nat.le_trans (Ext.alloc no w6s (.cells #[.string (str r.key), .string (str r.text), .int .i64 r.ver, .int .i64 r.time, .int .i64 r.dot.dev, .int .i64 r.dot.ep, .int .i64 r.dot.seq] 41)).size hp2.ext.size)
            clear hp2 hX1 hX hO hW ho1
            have hcC : ∀ w, (Instr.sliceAt 26 (.slice (some ⟨b, off, none⟩) l.length lc) (some (.int .i64 ((i : Int) + 1))) none none).run Tryz.prog w = .ok (.slice (cutAt (some ⟨b, off, none⟩) lc (i + 1) 7) (l.length - (i + 1)) (lc - (i + 1))) w := fun w => run_cut_l TReg w (some ⟨b, off, none⟩) _ lc .i64 (i + 1) (by omega)
            have hf2 : Rd w7 (cutAt (some ⟨b, off, none⟩) lc (i + 1) 7) (rows RegR.cells (l.drop (i + 1))) := by have q := (hr.no hxB).cutAt lc (i + 1) 7 (fun e => by rw [rows_length kReg]; exact Nat.mul_le_mul_right _ (by omega)); rwa [rows_drop kReg] at q
            go_wp2_with (at_builtin; refine wpList_append TReg rfl rfl rfl ho2 rfl hf2 (by rw [rows_length kReg, List.length_drop]) (oneReg _) ?c1 ?c2 ?c3 ?_)
            case c1 => unfold maxLen; omega
            case c2 => omega
            case c3 => omega
            intro a3 c3 w8 hp3
            have ho3 := hp3.own
            have hxC : Ext no w w8 := hxB.trans hp3.ext (fun k hk => by rintro ⟨ad, h, hb⟩; have := (ho2.base ad h).1; omega)
            clear hp3 hf2 hcC
            go_wp2_with fail
            go_ret
            refine ⟨a3, c3, ?_, ?_, hxC⟩
            · rw [HR.out, splice_length _ _ _ _ hPl (by omega)]; rfl
            · rw [HR.out, splice_length _ _ _ _ hPl (by omega)]; unfold splice; rw [rows_append, rows_append, rows_one]; exact ho3.mono hB2
          · have t1' : decide (o.time < r.time) = false := decF t1
            by_cases t2 : r.time = o.time
            · have t2' : decide (r.time = o.time) = true := decT t2
              have t2b : (r.time == o.time) = true := by simpa using t2
              cases t3 : DotR.lt o.dot r.dot with
              | true =>
                have HR := Lib.hid (show E = splice l i (i + 1) r by rw [HE.out]; unfold refSet; rw [← HP.out, hrm]; simp only; rw [if_pos Hk.out]; unfold refSetX; rw [t1', t2', t3]; rfl)
                clear t2
                go_upto_region 7 with fail
                refine wp_region_F [4, 6, 13, 15, 19, 24] (looks [(4, fun z => Ext no w6 z), (6, fun z => Ext no w6 z), (13, fun z => Ext no w6 z), (15, fun z => Ext no w6 z), (19, fun z => Ext no w6 z), (24, fun z => Ext no w6 z)]) (by kernel_rfl) ?_
                have hT0 : ∀ k, looks [(4, fun z => Ext no w6 z), (6, fun z => Ext no w6 z), (13, fun z => Ext no w6 z), (15, fun z => Ext no w6 z), (19, fun z => Ext no w6 z), (24, fun z => Ext no w6 z)] k (w6.drew) := looks_all ⟨Ext.drew no w6, Ext.drew no w6, Ext.drew no w6, Ext.drew no w6, Ext.drew no w6, Ext.drew no w6, trivial⟩
                refine wpF_take 0 (v := ?_) rfl (by kernel_rfl) (by kernel_rfl) (by kernel_rfl) (fun _ _ _ h => h) hT0 (by rfl) ?_ ?_
                rotate_left
                · (intro wq; go_simp; try with_reducible rfl)
                simp only [pz]
                refine wpF_take 1 (v := ?_) rfl (by kernel_rfl) (by kernel_rfl) (by kernel_rfl) (fun _ _ _ h => h) hT0 (by rfl) ?_ ?_
                rotate_left
                · (intro wq; go_simp; try with_reducible rfl)
                simp only [pz]
                refine wpF_take 2 (v := .pointer (some ⟨b, off + i * 7, none⟩)) rfl (by kernel_rfl) (by kernel_rfl) (by kernel_rfl) (fun _ _ _ h => h) hT0 (by rfl) (by intro wq; go_simp) ?_
                simp only [pz]
                refine wpF_take 3 (v := ?_) rfl (by kernel_rfl) (by kernel_rfl) (by kernel_rfl) (fun _ _ _ h => h) hT0 (by rfl) ?_ ?_
                rotate_left
                · (intro wq; go_simp; try with_reducible rfl)
                simp only [pz]
                refine wpF_look 4 (v := .int .i64 r.time) rfl rfl (by kernel_rfl) (by kernel_rfl) (by kernel_rfl) (by kernel_rfl) (fun _ _ _ h => h) hT0 (by rfl) (fun w hS => by have hS : Ext no w6 w := hS; have q0 := hS.keeps y3 (fun h => h); go_simp) ?_
                simp only [pz]
                refine wpF_take 5 (v := ?_) rfl (by kernel_rfl) (by kernel_rfl) (by kernel_rfl) (fun _ _ _ h => h) hT0 (by rfl) ?_ ?_
                rotate_left
                · (intro wq; go_simp; try with_reducible rfl)
                simp only [pz]
                refine wpF_look 6 (v := .int .i64 o.time) rfl rfl (by kernel_rfl) (by kernel_rfl) (by kernel_rfl) (by kernel_rfl) (fun _ _ _ h => h) hT0 (by rfl) (fun w hS => by have hS : Ext no w6 w := hS; have q0 := hS.keeps q9 (fun h => h); go_simp) ?_
                simp only [pz]
                refine wpF_take 7 (v := .bool false) rfl (by kernel_rfl) (by kernel_rfl) (by kernel_rfl) (fun _ _ _ h => h) hT0 (by rfl) (by intro wq; go_simp; first | done | rfl) ?_
                simp only [pz]
                refine wpF_take 8 (v := ?_) rfl (by kernel_rfl) (by kernel_rfl) (by kernel_rfl) (fun _ _ _ h => h) hT0 (by rfl) ?_ ?_
                rotate_left
                · (intro wq; go_simp; try with_reducible rfl)
                simp only [pz]
                refine wpF_take 9 (v := ?_) rfl (by kernel_rfl) (by kernel_rfl) (by kernel_rfl) (fun _ _ _ h => h) hT0 (by rfl) ?_ ?_
                rotate_left
                · (intro wq; go_simp; try with_reducible rfl)
                simp only [pz]
                refine wpF_take 10 (v := ?_) rfl (by kernel_rfl) (by kernel_rfl) (by kernel_rfl) (fun _ _ _ h => h) hT0 (by rfl) ?_ ?_
                rotate_left
                · (intro wq; go_simp; try with_reducible rfl)
                simp only [pz]
                refine wpF_take 11 (v := .pointer (some ⟨b, off + i * 7, none⟩)) rfl (by kernel_rfl) (by kernel_rfl) (by kernel_rfl) (fun _ _ _ h => h) hT0 (by rfl) (by intro wq; go_simp) ?_
                simp only [pz]
                refine wpF_take 12 (v := ?_) rfl (by kernel_rfl) (by kernel_rfl) (by kernel_rfl) (fun _ _ _ h => h) hT0 (by rfl) ?_ ?_
                rotate_left
                · (intro wq; go_simp; try with_reducible rfl)
                simp only [pz]
                refine wpF_look 13 (v := .int .i64 r.time) rfl rfl (by kernel_rfl) (by kernel_rfl) (by kernel_rfl) (by kernel_rfl) (fun _ _ _ h => h) hT0 (by rfl) (fun w hS => by have hS : Ext no w6 w := hS; have q0 := hS.keeps y3 (fun h => h); go_simp) ?_
                simp only [pz]
                refine wpF_take 14 (v := ?_) rfl (by kernel_rfl) (by kernel_rfl) (by kernel_rfl) (fun _ _ _ h => h) hT0 (by rfl) ?_ ?_
                rotate_left
                · (intro wq; go_simp; try with_reducible rfl)
                simp only [pz]
                refine wpF_look 15 (v := .int .i64 o.time) rfl rfl (by kernel_rfl) (by kernel_rfl) (by kernel_rfl) (by kernel_rfl) (fun _ _ _ h => h) hT0 (by rfl) (fun w hS => by have hS : Ext no w6 w := hS; have q0 := hS.keeps q9 (fun h => h); go_simp) ?_
                simp only [pz]
                refine wpF_take 16 (v := .bool true) rfl (by kernel_rfl) (by kernel_rfl) (by kernel_rfl) (fun _ _ _ h => h) hT0 (by rfl) (by intro wq; go_simp; first | done | rfl) ?_
                simp only [pz]
                refine wpF_take 17 (v := ?_) rfl (by kernel_rfl) (by kernel_rfl) (by kernel_rfl) (fun _ _ _ h => h) hT0 (by rfl) ?_ ?_
                rotate_left
                · (intro wq; go_simp; try with_reducible rfl)
                simp only [pz]
                refine wpF_take 18 (v := ?_) rfl (by kernel_rfl) (by kernel_rfl) (by kernel_rfl) (fun _ _ _ h => h) hT0 (by rfl) ?_ ?_
                rotate_left
                · (intro wq; go_simp; try with_reducible rfl)
                simp only [pz]
                refine wpF_look 19 (v := .agg #[.int .i64 o.dot.dev, .int .i64 o.dot.ep, .int .i64 o.dot.seq]) rfl rfl (by kernel_rfl) (by kernel_rfl) (by kernel_rfl) (by kernel_rfl) (fun _ _ _ h => h) hT0 (by rfl) (fun w hS => by have hS : Ext no w6 w := hS; have q0 := hS.keeps q0 (fun h => h); have q1 := hS.keeps q1 (fun h => h); have q2 := hS.keeps q2 (fun h => h); go_simp) ?_
                simp only [pz]
                refine wpF_take 20 (v := ?_) rfl (by kernel_rfl) (by kernel_rfl) (by kernel_rfl) (fun _ _ _ h => h) hT0 (by rfl) ?_ ?_
                rotate_left
                · (intro wq; go_simp; try with_reducible rfl)
                simp only [pz]
                refine wpF_take 21 (v := ?_) rfl (by kernel_rfl) (by kernel_rfl) (by kernel_rfl) (fun _ _ _ h => h) hT0 (by rfl) ?_ ?_
                rotate_left
                · (intro wq; go_simp; try with_reducible rfl)
                simp only [pz]
                refine wpF_take 22 (v := .pointer (some ⟨b, off + i * 7, none⟩)) rfl (by kernel_rfl) (by kernel_rfl) (by kernel_rfl) (fun _ _ _ h => h) hT0 (by rfl) (by intro wq; go_simp) ?_
                simp only [pz]
                refine wpF_take 23 (v := ?_) rfl (by kernel_rfl) (by kernel_rfl) (by kernel_rfl) (fun _ _ _ h => h) hT0 (by rfl) ?_ ?_
                rotate_left
                · (intro wq; go_simp; try with_reducible rfl)
                simp only [pz]
                refine wpF_look 24 (v := .agg #[.int .i64 r.dot.dev, .int .i64 r.dot.ep, .int .i64 r.dot.seq]) rfl rfl (by kernel_rfl) (by kernel_rfl) (by kernel_rfl) (by kernel_rfl) (fun _ _ _ h => h) hT0 (by rfl) (fun w hS => by have hS : Ext no w6 w := hS; have q0 := hS.keeps y4 (fun h => h); have q1 := hS.keeps y5 (fun h => h); have q2 := hS.keeps y6 (fun h => h); go_simp) ?_
                simp only [pz]
                refine wpF_exec 25 rfl (by kernel_rfl) (by rfl) ?_
                intro K hK
                go_simp
                refine (less_any _ o.dot r.dot).mono ?_
                rintro e w3 ⟨rfl, hx3⟩
                have hT1 : ∀ k, looks [(4, fun z => Ext no w6 z), (6, fun z => Ext no w6 z), (13, fun z => Ext no w6 z), (15, fun z => Ext no w6 z), (19, fun z => Ext no w6 z), (24, fun z => Ext no w6 z)] k (w3) := looks_all ⟨(Ext.drew no w6).comp hx3, (Ext.drew no w6).comp hx3, (Ext.drew no w6).comp hx3, (Ext.drew no w6).comp hx3, (Ext.drew no w6).comp hx3, (Ext.drew no w6).comp hx3, trivial⟩
                refine hK _ _ (looks [(4, fun z => Ext no w6 z), (6, fun z => Ext no w6 z), (13, fun z => Ext no w6 z), (15, fun z => Ext no w6 z), (19, fun z => Ext no w6 z), (24, fun z => Ext no w6 z)]) ⟨.inr (.inl (by kernel_rfl)), .inr (.inl (by kernel_rfl)), .inr (.inl (by kernel_rfl)), .inr (.inl (by kernel_rfl)), .inr (.inl (by kernel_rfl)), .inr (.inl (by kernel_rfl)), trivial⟩ hT1 ?_
                clear hK K
                try simp only [pz]
                replace hx3 := (Ext.drew no w6).comp hx3
                refine wpF_take 26 (v := ?_) rfl (by kernel_rfl) (by kernel_rfl) (by kernel_rfl) (fun _ _ _ h => h) hT1 (by rfl) ?_ ?_
                rotate_left
                · (intro wq; go_simp; try with_reducible rfl)
                simp only [pz]
                refine wpF_take 27 (v := ?_) rfl (by kernel_rfl) (by kernel_rfl) (by kernel_rfl) (fun _ _ _ h => h) hT1 (by rfl) ?_ ?_
                rotate_left
                · (intro wq; go_simp; try with_reducible rfl)
                simp only [pz]
                refine wpF_done (by kernel_rfl) ?_ _
                clear q0 q1 q2 q9 y0 y1 y2 y3 y4 y5 y6
                replace hW := hW.comp hx3
                replace hO := hO.ext (by simp) hx3 (fun h => h)
                replace hX := hX.ext (by simp) hx3 (fun h => h)
                replace ho1 := ho1.ext hx3 (fun _ _ h => h)
                replace hBs := Nat.le_trans hBs hx3.size
                clear hx3
                have hrr := hr.no hW
                have y0 : w3.cell? ⟨b, off + i * 7, none⟩ = some (.string (str r.key)) := rows_cell kReg hrr hrm 0 _ rfl
                have y1 : w3.cell? ⟨b, off + i * 7 + 1, none⟩ = some (.string (str r.text)) := rows_cell kReg hrr hrm 1 _ rfl
                have y2 : w3.cell? ⟨b, off + i * 7 + 2, none⟩ = some (.int .i64 r.ver) := rows_cell kReg hrr hrm 2 _ rfl
                have y3 : w3.cell? ⟨b, off + i * 7 + 3, none⟩ = some (.int .i64 r.time) := rows_cell kReg hrr hrm 3 _ rfl
                have y4 : w3.cell? ⟨b, off + i * 7 + 4, none⟩ = some (.int .i64 r.dot.dev) := rows_cell kReg hrr hrm 4 _ rfl
                have y5 : w3.cell? ⟨b, off + i * 7 + 5, none⟩ = some (.int .i64 r.dot.ep) := rows_cell kReg hrr hrm 5 _ rfl
                have y6 : w3.cell? ⟨b, off + i * 7 + 6, none⟩ = some (.int .i64 r.dot.seq) := rows_cell kReg hrr hrm 6 _ rfl
                clear hrr
                have v0 := hX.cell 0 _ rfl
                have v1 := hX.cell 1 _ rfl
                have v2 := hX.cell 2 _ rfl
                have v3 := hX.cell 3 _ rfl
                have v4 := hX.cell 4 _ rfl
                have v5 := hX.cell 5 _ rfl
                have v6 := hX.cell 6 _ rfl
                have f0 := hX.fr 0
                have f1 := hX.fr 1
                have f2 := hX.fr 2
                have f3 := hX.fr 3
                have f4 := hX.fr 4
                have f5 := hX.fr 5
                have f6 := hX.fr 6
                go_upto_region 9 with fail
                have hXs := (((((((hX.set 0 (.string (str r.key)) (by simp)).set 1 (.string (str r.text)) (by simp)).set 2 (.int .i64 r.ver) (by simp)).set 3 (.int .i64 r.time) (by simp)).set 4 (.int .i64 r.dot.dev) (by simp)).set 5 (.int .i64 r.dot.ep) (by simp)).set 6 (.int .i64 r.dot.seq) (by simp))
                have hxs : Ext (just gx) w3 (((((((w3.setCell ⟨gx, 0, none⟩ (.string (str r.key))).setCell ⟨gx, 1, none⟩ (.string (str r.text))).setCell ⟨gx, 2, none⟩ (.int .i64 r.ver)).setCell ⟨gx, 3, none⟩ (.int .i64 r.time)).setCell ⟨gx, 4, none⟩ (.int .i64 r.dot.dev)).setCell ⟨gx, 5, none⟩ (.int .i64 r.dot.ep)).setCell ⟨gx, 6, none⟩ (.int .i64 r.dot.seq)) := ((((((Ext.setCell (S := just gx) w3 ⟨gx, 0, none⟩ (.string (str r.key)) rfl).comp (Ext.setCell _ ⟨gx, 1, none⟩ (.string (str r.text)) rfl)).comp (Ext.setCell _ ⟨gx, 2, none⟩ (.int .i64 r.ver) rfl)).comp (Ext.setCell _ ⟨gx, 3, none⟩ (.int .i64 r.time) rfl)).comp (Ext.setCell _ ⟨gx, 4, none⟩ (.int .i64 r.dot.dev) rfl)).comp (Ext.setCell _ ⟨gx, 5, none⟩ (.int .i64 r.dot.ep) rfl)).comp (Ext.setCell _ ⟨gx, 6, none⟩ (.int .i64 r.dot.seq) rfl)
                clear y0 y1 y2 y3 y4 y5 y6 v0 f0 v1 f1 v2 f2 v3 f3 v4 f4 v5 f5 v6 f6
                generalize ((((((w3.setCell ⟨gx, 0, none⟩ (.string (str r.key))).setCell ⟨gx, 1, none⟩ (.string (str r.text))).setCell ⟨gx, 2, none⟩ (.int .i64 r.ver)).setCell ⟨gx, 3, none⟩ (.int .i64 r.time)).setCell ⟨gx, 4, none⟩ (.int .i64 r.dot.dev)).setCell ⟨gx, 5, none⟩ (.int .i64 r.dot.ep)).setCell ⟨gx, 6, none⟩ (.int .i64 r.dot.seq) = w6s at *
                replace hX := hXs
                replace hW := hW.trans hxs (fun k hk e => by have e : k = gx := e; omega)
                replace hO := hO.ext (by simp) hxs (fun e => by have e : g = gx := e; omega)
                replace ho1 := ho1.ext hxs (fun ad h e => by have e : ad.block = gx := e; have := (ho1.base ad h).1; omega)
                replace hBs := Nat.le_trans hBs hxs.size
                clear hXs hxs
                have z0 := hX.cell 0 _ rfl
                have z1 := hX.cell 1 _ rfl
                have z2 := hX.cell 2 _ rfl
                have z3 := hX.cell 3 _ rfl
                have z4 := hX.cell 4 _ rfl
                have z5 := hX.cell 5 _ rfl
                have z6 := hX.cell 6 _ rfl
                have hX1 : Rd (w6s.alloc (.cells #[.string (str r.key), .string (str r.text), .int .i64 r.ver, .int .i64 r.time, .int .i64 r.dot.dev, .int .i64 r.dot.ep, .int .i64 r.dot.seq] 41)) (some ⟨w6s.heap.size, 0, none⟩) (RegR.cells r) := Rd.lit w6s #[.string (str r.key), .string (str r.text), .int .i64 r.ver, .int .i64 r.time, .int .i64 r.dot.dev, .int .i64 r.dot.ep, .int .i64 r.dot.seq] _ _
                go_wp2_with (at_builtin; refine wpList_append TReg rfl rfl rfl (ho1.alloc _) rfl hX1 rfl (one1Reg r) ?c1 ?c2 ?c3 ?_)
                case c1 => unfold maxLen; omega
                case c2 => omega
                case c3 => first | omega | (simp; omega)
                intro a2 c2 w7 hp2
                have ho2 := hp2.own
                clear z0 z1 z2 z3 z4 z5 z6
                have hxB : Ext no w w7 := (hW.comp (Ext.alloc no _ _)).trans hp2.ext (fun k hk => by rintro ⟨ad, h, hb⟩; have := (ho1.base ad h).1; omega)
                have hzB : B ≤ w7.heap.size := Nat.le_trans hBs (Nat.le_trans (Ext.alloc no w6s (.cells #[.string (str r.key), .string (str r.text), .int .i64 r.ver, .int .i64 r.time, .int .i64 r.dot.dev, .int .i64 r.dot.ep, .int .i64 r.dot.seq] 41)).size hp2.ext.size)
                clear hp2 hX1 hX hO hW ho1
                have hcC : ∀ w, (Instr.sliceAt 26 (.slice (some ⟨b, off, none⟩) l.length lc) (some (.int .i64 ((i : Int) + 1))) none none).run Tryz.prog w = .ok (.slice (cutAt (some ⟨b, off, none⟩) lc (i + 1) 7) (l.length - (i + 1)) (lc - (i + 1))) w := fun w => run_cut_l TReg w (some ⟨b, off, none⟩) _ lc .i64 (i + 1) (by omega)
                have hf2 : Rd w7 (cutAt (some ⟨b, off, none⟩) lc (i + 1) 7) (rows RegR.cells (l.drop (i + 1))) := by have q := (hr.no hxB).cutAt lc (i + 1) 7 (fun e => by rw [rows_length kReg]; exact Nat.mul_le_mul_right _ (by omega)); rwa [rows_drop kReg] at q
                go_wp2_with (at_builtin; refine wpList_append TReg rfl rfl rfl ho2 rfl hf2 (by rw [rows_length kReg, List.length_drop]) (oneReg _) ?c1 ?c2 ?c3 ?_)
                case c1 => unfold maxLen; omega
                case c2 => omega
                case c3 => omega
                intro a3 c3 w8 hp3
                have ho3 := hp3.own
                have hxC : Ext no w w8 := hxB.trans hp3.ext (fun k hk => by rintro ⟨ad, h, hb⟩; have := (ho2.base ad h).1; omega)
                clear hp3 hf2 hcC
                go_wp2_with fail
                go_ret
                refine ⟨a3, c3, ?_, ?_, hxC⟩
                · rw [HR.out, splice_length _ _ _ _ hPl (by omega)]; rfl
                · rw [HR.out, splice_length _ _ _ _ hPl (by omega)]; unfold splice; rw [rows_append, rows_append, rows_one]; exact ho3.mono hB2
              | false =>
                have HR := Lib.hid (show E = splice l i (i + 1) (regOf o) by rw [HE.out]; unfold refSet; rw [← HP.out, hrm]; simp only; rw [if_pos Hk.out]; unfold refSetX; rw [t1', t2', t3]; rfl)
                clear t2
                go_upto_region 7 with fail
                refine wp_region_F [4, 6, 13, 15, 19, 24] (looks [(4, fun z => Ext no w6 z), (6, fun z => Ext no w6 z), (13, fun z => Ext no w6 z), (15, fun z => Ext no w6 z), (19, fun z => Ext no w6 z), (24, fun z => Ext no w6 z)]) (by kernel_rfl) ?_
                have hT0 : ∀ k, looks [(4, fun z => Ext no w6 z), (6, fun z => Ext no w6 z), (13, fun z => Ext no w6 z), (15, fun z => Ext no w6 z), (19, fun z => Ext no w6 z), (24, fun z => Ext no w6 z)] k (w6.drew) := looks_all ⟨Ext.drew no w6, Ext.drew no w6, Ext.drew no w6, Ext.drew no w6, Ext.drew no w6, Ext.drew no w6, trivial⟩
                refine wpF_take 0 (v := ?_) rfl (by kernel_rfl) (by kernel_rfl) (by kernel_rfl) (fun _ _ _ h => h) hT0 (by rfl) ?_ ?_
                rotate_left
                · (intro wq; go_simp; try with_reducible rfl)
                simp only [pz]
                refine wpF_take 1 (v := ?_) rfl (by kernel_rfl) (by kernel_rfl) (by kernel_rfl) (fun _ _ _ h => h) hT0 (by rfl) ?_ ?_
                rotate_left
                · (intro wq; go_simp; try with_reducible rfl)
                simp only [pz]
                refine wpF_take 2 (v := .pointer (some ⟨b, off + i * 7, none⟩)) rfl (by kernel_rfl) (by kernel_rfl) (by kernel_rfl) (fun _ _ _ h => h) hT0 (by rfl) (by intro wq; go_simp) ?_
                simp only [pz]
                refine wpF_take 3 (v := ?_) rfl (by kernel_rfl) (by kernel_rfl) (by kernel_rfl) (fun _ _ _ h => h) hT0 (by rfl) ?_ ?_
                rotate_left
                · (intro wq; go_simp; try with_reducible rfl)
                simp only [pz]
                refine wpF_look 4 (v := .int .i64 r.time) rfl rfl (by kernel_rfl) (by kernel_rfl) (by kernel_rfl) (by kernel_rfl) (fun _ _ _ h => h) hT0 (by rfl) (fun w hS => by have hS : Ext no w6 w := hS; have q0 := hS.keeps y3 (fun h => h); go_simp) ?_
                simp only [pz]
                refine wpF_take 5 (v := ?_) rfl (by kernel_rfl) (by kernel_rfl) (by kernel_rfl) (fun _ _ _ h => h) hT0 (by rfl) ?_ ?_
                rotate_left
                · (intro wq; go_simp; try with_reducible rfl)
                simp only [pz]
                refine wpF_look 6 (v := .int .i64 o.time) rfl rfl (by kernel_rfl) (by kernel_rfl) (by kernel_rfl) (by kernel_rfl) (fun _ _ _ h => h) hT0 (by rfl) (fun w hS => by have hS : Ext no w6 w := hS; have q0 := hS.keeps q9 (fun h => h); go_simp) ?_
                simp only [pz]
                refine wpF_take 7 (v := .bool false) rfl (by kernel_rfl) (by kernel_rfl) (by kernel_rfl) (fun _ _ _ h => h) hT0 (by rfl) (by intro wq; go_simp; first | done | rfl) ?_
                simp only [pz]
                refine wpF_take 8 (v := ?_) rfl (by kernel_rfl) (by kernel_rfl) (by kernel_rfl) (fun _ _ _ h => h) hT0 (by rfl) ?_ ?_
                rotate_left
                · (intro wq; go_simp; try with_reducible rfl)
                simp only [pz]
                refine wpF_take 9 (v := ?_) rfl (by kernel_rfl) (by kernel_rfl) (by kernel_rfl) (fun _ _ _ h => h) hT0 (by rfl) ?_ ?_
                rotate_left
                · (intro wq; go_simp; try with_reducible rfl)
                simp only [pz]
                refine wpF_take 10 (v := ?_) rfl (by kernel_rfl) (by kernel_rfl) (by kernel_rfl) (fun _ _ _ h => h) hT0 (by rfl) ?_ ?_
                rotate_left
                · (intro wq; go_simp; try with_reducible rfl)
                simp only [pz]
                refine wpF_take 11 (v := .pointer (some ⟨b, off + i * 7, none⟩)) rfl (by kernel_rfl) (by kernel_rfl) (by kernel_rfl) (fun _ _ _ h => h) hT0 (by rfl) (by intro wq; go_simp) ?_
                simp only [pz]
                refine wpF_take 12 (v := ?_) rfl (by kernel_rfl) (by kernel_rfl) (by kernel_rfl) (fun _ _ _ h => h) hT0 (by rfl) ?_ ?_
                rotate_left
                · (intro wq; go_simp; try with_reducible rfl)
                simp only [pz]
                refine wpF_look 13 (v := .int .i64 r.time) rfl rfl (by kernel_rfl) (by kernel_rfl) (by kernel_rfl) (by kernel_rfl) (fun _ _ _ h => h) hT0 (by rfl) (fun w hS => by have hS : Ext no w6 w := hS; have q0 := hS.keeps y3 (fun h => h); go_simp) ?_
                simp only [pz]
                refine wpF_take 14 (v := ?_) rfl (by kernel_rfl) (by kernel_rfl) (by kernel_rfl) (fun _ _ _ h => h) hT0 (by rfl) ?_ ?_
                rotate_left
                · (intro wq; go_simp; try with_reducible rfl)
                simp only [pz]
                refine wpF_look 15 (v := .int .i64 o.time) rfl rfl (by kernel_rfl) (by kernel_rfl) (by kernel_rfl) (by kernel_rfl) (fun _ _ _ h => h) hT0 (by rfl) (fun w hS => by have hS : Ext no w6 w := hS; have q0 := hS.keeps q9 (fun h => h); go_simp) ?_
                simp only [pz]
                refine wpF_take 16 (v := .bool true) rfl (by kernel_rfl) (by kernel_rfl) (by kernel_rfl) (fun _ _ _ h => h) hT0 (by rfl) (by intro wq; go_simp; first | done | rfl) ?_
                simp only [pz]
                refine wpF_take 17 (v := ?_) rfl (by kernel_rfl) (by kernel_rfl) (by kernel_rfl) (fun _ _ _ h => h) hT0 (by rfl) ?_ ?_
                rotate_left
                · (intro wq; go_simp; try with_reducible rfl)
                simp only [pz]
                refine wpF_take 18 (v := ?_) rfl (by kernel_rfl) (by kernel_rfl) (by kernel_rfl) (fun _ _ _ h => h) hT0 (by rfl) ?_ ?_
                rotate_left
                · (intro wq; go_simp; try with_reducible rfl)
                simp only [pz]
                refine wpF_look 19 (v := .agg #[.int .i64 o.dot.dev, .int .i64 o.dot.ep, .int .i64 o.dot.seq]) rfl rfl (by kernel_rfl) (by kernel_rfl) (by kernel_rfl) (by kernel_rfl) (fun _ _ _ h => h) hT0 (by rfl) (fun w hS => by have hS : Ext no w6 w := hS; have q0 := hS.keeps q0 (fun h => h); have q1 := hS.keeps q1 (fun h => h); have q2 := hS.keeps q2 (fun h => h); go_simp) ?_
                simp only [pz]
                refine wpF_take 20 (v := ?_) rfl (by kernel_rfl) (by kernel_rfl) (by kernel_rfl) (fun _ _ _ h => h) hT0 (by rfl) ?_ ?_
                rotate_left
                · (intro wq; go_simp; try with_reducible rfl)
                simp only [pz]
                refine wpF_take 21 (v := ?_) rfl (by kernel_rfl) (by kernel_rfl) (by kernel_rfl) (fun _ _ _ h => h) hT0 (by rfl) ?_ ?_
                rotate_left
                · (intro wq; go_simp; try with_reducible rfl)
                simp only [pz]
                refine wpF_take 22 (v := .pointer (some ⟨b, off + i * 7, none⟩)) rfl (by kernel_rfl) (by kernel_rfl) (by kernel_rfl) (fun _ _ _ h => h) hT0 (by rfl) (by intro wq; go_simp) ?_
                simp only [pz]
                refine wpF_take 23 (v := ?_) rfl (by kernel_rfl) (by kernel_rfl) (by kernel_rfl) (fun _ _ _ h => h) hT0 (by rfl) ?_ ?_
                rotate_left
                · (intro wq; go_simp; try with_reducible rfl)
                simp only [pz]
                refine wpF_look 24 (v := .agg #[.int .i64 r.dot.dev, .int .i64 r.dot.ep, .int .i64 r.dot.seq]) rfl rfl (by kernel_rfl) (by kernel_rfl) (by kernel_rfl) (by kernel_rfl) (fun _ _ _ h => h) hT0 (by rfl) (fun w hS => by have hS : Ext no w6 w := hS; have q0 := hS.keeps y4 (fun h => h); have q1 := hS.keeps y5 (fun h => h); have q2 := hS.keeps y6 (fun h => h); go_simp) ?_
                simp only [pz]
                refine wpF_exec 25 rfl (by kernel_rfl) (by rfl) ?_
                intro K hK
                go_simp
                refine (less_any _ o.dot r.dot).mono ?_
                rintro e w3 ⟨rfl, hx3⟩
                have hT1 : ∀ k, looks [(4, fun z => Ext no w6 z), (6, fun z => Ext no w6 z), (13, fun z => Ext no w6 z), (15, fun z => Ext no w6 z), (19, fun z => Ext no w6 z), (24, fun z => Ext no w6 z)] k (w3) := looks_all ⟨(Ext.drew no w6).comp hx3, (Ext.drew no w6).comp hx3, (Ext.drew no w6).comp hx3, (Ext.drew no w6).comp hx3, (Ext.drew no w6).comp hx3, (Ext.drew no w6).comp hx3, trivial⟩
                refine hK _ _ (looks [(4, fun z => Ext no w6 z), (6, fun z => Ext no w6 z), (13, fun z => Ext no w6 z), (15, fun z => Ext no w6 z), (19, fun z => Ext no w6 z), (24, fun z => Ext no w6 z)]) ⟨.inr (.inl (by kernel_rfl)), .inr (.inl (by kernel_rfl)), .inr (.inl (by kernel_rfl)), .inr (.inl (by kernel_rfl)), .inr (.inl (by kernel_rfl)), .inr (.inl (by kernel_rfl)), trivial⟩ hT1 ?_
                clear hK K
                try simp only [pz]
                replace hx3 := (Ext.drew no w6).comp hx3
                refine wpF_take 26 (v := ?_) rfl (by kernel_rfl) (by kernel_rfl) (by kernel_rfl) (fun _ _ _ h => h) hT1 (by rfl) ?_ ?_
                rotate_left
                · (intro wq; go_simp; try with_reducible rfl)
                simp only [pz]
                refine wpF_take 27 (v := ?_) rfl (by kernel_rfl) (by kernel_rfl) (by kernel_rfl) (fun _ _ _ h => h) hT1 (by rfl) ?_ ?_
                rotate_left
                · (intro wq; go_simp; try with_reducible rfl)
                simp only [pz]
                refine wpF_done (by kernel_rfl) ?_ _
                clear q0 q1 q2 q9 y0 y1 y2 y3 y4 y5 y6
                replace hW := hW.comp hx3
                replace hO := hO.ext (by simp) hx3 (fun h => h)
                replace hX := hX.ext (by simp) hx3 (fun h => h)
                replace ho1 := ho1.ext hx3 (fun _ _ h => h)
                replace hBs := Nat.le_trans hBs hx3.size
                clear hx3
                have z0 := hX.cell 0 _ rfl
                have z1 := hX.cell 1 _ rfl
                have z2 := hX.cell 2 _ rfl
                have z3 := hX.cell 3 _ rfl
                have z4 := hX.cell 4 _ rfl
                have z5 := hX.cell 5 _ rfl
                have z6 := hX.cell 6 _ rfl
                have hX1 : Rd (w3.alloc (.cells #[.string (str o.key), .string (str o.text), .int .i64 o.ver, .int .i64 o.time, .int .i64 o.dot.dev, .int .i64 o.dot.ep, .int .i64 o.dot.seq] 41)) (some ⟨w3.heap.size, 0, none⟩) (RegR.cells (regOf o)) := Rd.lit w3 #[.string (str o.key), .string (str o.text), .int .i64 o.ver, .int .i64 o.time, .int .i64 o.dot.dev, .int .i64 o.dot.ep, .int .i64 o.dot.seq] _ _
                go_wp2_with (at_builtin; refine wpList_append TReg rfl rfl rfl (ho1.alloc _) rfl hX1 rfl (one1Reg (regOf o)) ?c1 ?c2 ?c3 ?_)
                case c1 => unfold maxLen; omega
                case c2 => omega
                case c3 => first | omega | (simp; omega)
                intro a2 c2 w7 hp2
                have ho2 := hp2.own
                clear z0 z1 z2 z3 z4 z5 z6
                have hxB : Ext no w w7 := (hW.comp (Ext.alloc no _ _)).trans hp2.ext (fun k hk => by rintro ⟨ad, h, hb⟩; have := (ho1.base ad h).1; omega)
                have hzB : B ≤ w7.heap.size := Nat.le_trans hBs (Nat.le_trans (Ext.alloc no w3 (.cells #[.string (str o.key), .string (str o.text), .int .i64 o.ver, .int .i64 o.time, .int .i64 o.dot.dev, .int .i64 o.dot.ep, .int .i64 o.dot.seq] 41)).size hp2.ext.size)
                clear hp2 hX1 hX hO hW ho1
                have hcC : ∀ w, (Instr.sliceAt 26 (.slice (some ⟨b, off, none⟩) l.length lc) (some (.int .i64 ((i : Int) + 1))) none none).run Tryz.prog w = .ok (.slice (cutAt (some ⟨b, off, none⟩) lc (i + 1) 7) (l.length - (i + 1)) (lc - (i + 1))) w := fun w => run_cut_l TReg w (some ⟨b, off, none⟩) _ lc .i64 (i + 1) (by omega)
                have hf2 : Rd w7 (cutAt (some ⟨b, off, none⟩) lc (i + 1) 7) (rows RegR.cells (l.drop (i + 1))) := by have q := (hr.no hxB).cutAt lc (i + 1) 7 (fun e => by rw [rows_length kReg]; exact Nat.mul_le_mul_right _ (by omega)); rwa [rows_drop kReg] at q
                go_wp2_with (at_builtin; refine wpList_append TReg rfl rfl rfl ho2 rfl hf2 (by rw [rows_length kReg, List.length_drop]) (oneReg _) ?c1 ?c2 ?c3 ?_)
                case c1 => unfold maxLen; omega
                case c2 => omega
                case c3 => omega
                intro a3 c3 w8 hp3
                have ho3 := hp3.own
                have hxC : Ext no w w8 := hxB.trans hp3.ext (fun k hk => by rintro ⟨ad, h, hb⟩; have := (ho2.base ad h).1; omega)
                clear hp3 hf2 hcC
                go_wp2_with fail
                go_ret
                refine ⟨a3, c3, ?_, ?_, hxC⟩
                · rw [HR.out, splice_length _ _ _ _ hPl (by omega)]; rfl
                · rw [HR.out, splice_length _ _ _ _ hPl (by omega)]; unfold splice; rw [rows_append, rows_append, rows_one]; exact ho3.mono hB2
            · have t2' : decide (r.time = o.time) = false := decF t2
              have t2b : (r.time == o.time) = false := by simpa using t2
              have HR := Lib.hid (show E = splice l i (i + 1) (regOf o) by rw [HE.out]; unfold refSet; rw [← HP.out, hrm]; simp only; rw [if_pos Hk.out]; unfold refSetX; rw [t1', t2']; rfl)
              clear t2
              go_upto_region 7 with fail
              refine wp_region_F [4, 6, 13, 15] (looks [(4, fun z => Ext no w6 z), (6, fun z => Ext no w6 z), (13, fun z => Ext no w6 z), (15, fun z => Ext no w6 z)]) (by kernel_rfl) ?_
              have hT0 : ∀ k, looks [(4, fun z => Ext no w6 z), (6, fun z => Ext no w6 z), (13, fun z => Ext no w6 z), (15, fun z => Ext no w6 z)] k (w6.drew) := looks_all ⟨Ext.drew no w6, Ext.drew no w6, Ext.drew no w6, Ext.drew no w6, trivial⟩
              refine wpF_take 0 (v := ?_) rfl (by kernel_rfl) (by kernel_rfl) (by kernel_rfl) (fun _ _ _ h => h) hT0 (by rfl) ?_ ?_
              rotate_left
              · (intro wq; go_simp; try with_reducible rfl)
              simp only [pz]
              refine wpF_take 1 (v := ?_) rfl (by kernel_rfl) (by kernel_rfl) (by kernel_rfl) (fun _ _ _ h => h) hT0 (by rfl) ?_ ?_
              rotate_left
              · (intro wq; go_simp; try with_reducible rfl)
              simp only [pz]
              refine wpF_take 2 (v := .pointer (some ⟨b, off + i * 7, none⟩)) rfl (by kernel_rfl) (by kernel_rfl) (by kernel_rfl) (fun _ _ _ h => h) hT0 (by rfl) (by intro wq; go_simp) ?_
              simp only [pz]
              refine wpF_take 3 (v := ?_) rfl (by kernel_rfl) (by kernel_rfl) (by kernel_rfl) (fun _ _ _ h => h) hT0 (by rfl) ?_ ?_
              rotate_left
              · (intro wq; go_simp; try with_reducible rfl)
              simp only [pz]
              refine wpF_look 4 (v := .int .i64 r.time) rfl rfl (by kernel_rfl) (by kernel_rfl) (by kernel_rfl) (by kernel_rfl) (fun _ _ _ h => h) hT0 (by rfl) (fun w hS => by have hS : Ext no w6 w := hS; have q0 := hS.keeps y3 (fun h => h); go_simp) ?_
              simp only [pz]
              refine wpF_take 5 (v := ?_) rfl (by kernel_rfl) (by kernel_rfl) (by kernel_rfl) (fun _ _ _ h => h) hT0 (by rfl) ?_ ?_
              rotate_left
              · (intro wq; go_simp; try with_reducible rfl)
              simp only [pz]
              refine wpF_look 6 (v := .int .i64 o.time) rfl rfl (by kernel_rfl) (by kernel_rfl) (by kernel_rfl) (by kernel_rfl) (fun _ _ _ h => h) hT0 (by rfl) (fun w hS => by have hS : Ext no w6 w := hS; have q0 := hS.keeps q9 (fun h => h); go_simp) ?_
              simp only [pz]
              refine wpF_take 7 (v := .bool false) rfl (by kernel_rfl) (by kernel_rfl) (by kernel_rfl) (fun _ _ _ h => h) hT0 (by rfl) (by intro wq; go_simp; first | done | rfl) ?_
              simp only [pz]
              refine wpF_take 8 (v := ?_) rfl (by kernel_rfl) (by kernel_rfl) (by kernel_rfl) (fun _ _ _ h => h) hT0 (by rfl) ?_ ?_
              rotate_left
              · (intro wq; go_simp; try with_reducible rfl)
              simp only [pz]
              refine wpF_take 9 (v := ?_) rfl (by kernel_rfl) (by kernel_rfl) (by kernel_rfl) (fun _ _ _ h => h) hT0 (by rfl) ?_ ?_
              rotate_left
              · (intro wq; go_simp; try with_reducible rfl)
              simp only [pz]
              refine wpF_take 10 (v := ?_) rfl (by kernel_rfl) (by kernel_rfl) (by kernel_rfl) (fun _ _ _ h => h) hT0 (by rfl) ?_ ?_
              rotate_left
              · (intro wq; go_simp; try with_reducible rfl)
              simp only [pz]
              refine wpF_take 11 (v := .pointer (some ⟨b, off + i * 7, none⟩)) rfl (by kernel_rfl) (by kernel_rfl) (by kernel_rfl) (fun _ _ _ h => h) hT0 (by rfl) (by intro wq; go_simp) ?_
              simp only [pz]
              refine wpF_take 12 (v := ?_) rfl (by kernel_rfl) (by kernel_rfl) (by kernel_rfl) (fun _ _ _ h => h) hT0 (by rfl) ?_ ?_
              rotate_left
              · (intro wq; go_simp; try with_reducible rfl)
              simp only [pz]
              refine wpF_look 13 (v := .int .i64 r.time) rfl rfl (by kernel_rfl) (by kernel_rfl) (by kernel_rfl) (by kernel_rfl) (fun _ _ _ h => h) hT0 (by rfl) (fun w hS => by have hS : Ext no w6 w := hS; have q0 := hS.keeps y3 (fun h => h); go_simp) ?_
              simp only [pz]
              refine wpF_take 14 (v := ?_) rfl (by kernel_rfl) (by kernel_rfl) (by kernel_rfl) (fun _ _ _ h => h) hT0 (by rfl) ?_ ?_
              rotate_left
              · (intro wq; go_simp; try with_reducible rfl)
              simp only [pz]
              refine wpF_look 15 (v := .int .i64 o.time) rfl rfl (by kernel_rfl) (by kernel_rfl) (by kernel_rfl) (by kernel_rfl) (fun _ _ _ h => h) hT0 (by rfl) (fun w hS => by have hS : Ext no w6 w := hS; have q0 := hS.keeps q9 (fun h => h); go_simp) ?_
              simp only [pz]
              refine wpF_take 16 (v := .bool false) rfl (by kernel_rfl) (by kernel_rfl) (by kernel_rfl) (fun _ _ _ h => h) hT0 (by rfl) (by intro wq; go_simp; first | done | rfl) ?_
              simp only [pz]
              refine wpF_take 17 (v := ?_) rfl (by kernel_rfl) (by kernel_rfl) (by kernel_rfl) (fun _ _ _ h => h) hT0 (by rfl) ?_ ?_
              rotate_left
              · (intro wq; go_simp; try with_reducible rfl)
              simp only [pz]
              refine wpF_skip 18 rfl (by kernel_rfl) (by kernel_rfl) (by kernel_rfl) (fun _ _ _ h => h) hT0 (by rfl) ?_
              simp only [pz]
              refine wpF_skip 19 rfl (by kernel_rfl) (by kernel_rfl) (by kernel_rfl) (fun _ _ _ h => h) hT0 (by rfl) ?_
              simp only [pz]
              refine wpF_skip 20 rfl (by kernel_rfl) (by kernel_rfl) (by kernel_rfl) (fun _ _ _ h => h) hT0 (by rfl) ?_
              simp only [pz]
              refine wpF_skip 21 rfl (by kernel_rfl) (by kernel_rfl) (by kernel_rfl) (fun _ _ _ h => h) hT0 (by rfl) ?_
              simp only [pz]
              refine wpF_skip 22 rfl (by kernel_rfl) (by kernel_rfl) (by kernel_rfl) (fun _ _ _ h => h) hT0 (by rfl) ?_
              simp only [pz]
              refine wpF_skip 23 rfl (by kernel_rfl) (by kernel_rfl) (by kernel_rfl) (fun _ _ _ h => h) hT0 (by rfl) ?_
              simp only [pz]
              refine wpF_skip 24 rfl (by kernel_rfl) (by kernel_rfl) (by kernel_rfl) (fun _ _ _ h => h) hT0 (by rfl) ?_
              simp only [pz]
              refine wpF_skip 25 rfl (by kernel_rfl) (by kernel_rfl) (by kernel_rfl) (fun _ _ _ h => h) hT0 (by rfl) ?_
              simp only [pz]
              refine wpF_take 26 (v := ?_) rfl (by kernel_rfl) (by kernel_rfl) (by kernel_rfl) (fun _ _ _ h => h) hT0 (by rfl) ?_ ?_
              rotate_left
              · (intro wq; go_simp; try with_reducible rfl)
              simp only [pz]
              refine wpF_take 27 (v := ?_) rfl (by kernel_rfl) (by kernel_rfl) (by kernel_rfl) (fun _ _ _ h => h) hT0 (by rfl) ?_ ?_
              rotate_left
              · (intro wq; go_simp; try with_reducible rfl)
              simp only [pz]
              refine wpF_done (by kernel_rfl) ?_ _
              have hx3 := Ext.drew no w6
              generalize w6.drew = w3 at *
              clear q0 q1 q2 q9 y0 y1 y2 y3 y4 y5 y6
              replace hW := hW.comp hx3
              replace hO := hO.ext (by simp) hx3 (fun h => h)
              replace hX := hX.ext (by simp) hx3 (fun h => h)
              replace ho1 := ho1.ext hx3 (fun _ _ h => h)
              replace hBs := Nat.le_trans hBs hx3.size
              clear hx3
              have z0 := hX.cell 0 _ rfl
              have z1 := hX.cell 1 _ rfl
              have z2 := hX.cell 2 _ rfl
              have z3 := hX.cell 3 _ rfl
              have z4 := hX.cell 4 _ rfl
              have z5 := hX.cell 5 _ rfl
              have z6 := hX.cell 6 _ rfl
              have hX1 : Rd (w3.alloc (.cells #[.string (str o.key), .string (str o.text), .int .i64 o.ver, .int .i64 o.time, .int .i64 o.dot.dev, .int .i64 o.dot.ep, .int .i64 o.dot.seq] 41)) (some ⟨w3.heap.size, 0, none⟩) (RegR.cells (regOf o)) := Rd.lit w3 #[.string (str o.key), .string (str o.text), .int .i64 o.ver, .int .i64 o.time, .int .i64 o.dot.dev, .int .i64 o.dot.ep, .int .i64 o.dot.seq] _ _
              go_wp2_with (at_builtin; refine wpList_append TReg rfl rfl rfl (ho1.alloc _) rfl hX1 rfl (one1Reg (regOf o)) ?c1 ?c2 ?c3 ?_)
              case c1 => unfold maxLen; omega
              case c2 => omega
              case c3 => first | omega | (simp; omega)
              intro a2 c2 w7 hp2
              have ho2 := hp2.own
              clear z0 z1 z2 z3 z4 z5 z6
              have hxB : Ext no w w7 := (hW.comp (Ext.alloc no _ _)).trans hp2.ext (fun k hk => by rintro ⟨ad, h, hb⟩; have := (ho1.base ad h).1; omega)
              have hzB : B ≤ w7.heap.size := Nat.le_trans hBs (Nat.le_trans (Ext.alloc no w3 (.cells #[.string (str o.key), .string (str o.text), .int .i64 o.ver, .int .i64 o.time, .int .i64 o.dot.dev, .int .i64 o.dot.ep, .int .i64 o.dot.seq] 41)).size hp2.ext.size)
              clear hp2 hX1 hX hO hW ho1
              have hcC : ∀ w, (Instr.sliceAt 26 (.slice (some ⟨b, off, none⟩) l.length lc) (some (.int .i64 ((i : Int) + 1))) none none).run Tryz.prog w = .ok (.slice (cutAt (some ⟨b, off, none⟩) lc (i + 1) 7) (l.length - (i + 1)) (lc - (i + 1))) w := fun w => run_cut_l TReg w (some ⟨b, off, none⟩) _ lc .i64 (i + 1) (by omega)
              have hf2 : Rd w7 (cutAt (some ⟨b, off, none⟩) lc (i + 1) 7) (rows RegR.cells (l.drop (i + 1))) := by have q := (hr.no hxB).cutAt lc (i + 1) 7 (fun e => by rw [rows_length kReg]; exact Nat.mul_le_mul_right _ (by omega)); rwa [rows_drop kReg] at q
              go_wp2_with (at_builtin; refine wpList_append TReg rfl rfl rfl ho2 rfl hf2 (by rw [rows_length kReg, List.length_drop]) (oneReg _) ?c1 ?c2 ?c3 ?_)
              case c1 => unfold maxLen; omega
              case c2 => omega
              case c3 => omega
              intro a3 c3 w8 hp3
              have ho3 := hp3.own
              have hxC : Ext no w w8 := hxB.trans hp3.ext (fun k hk => by rintro ⟨ad, h, hb⟩; have := (ho2.base ad h).1; omega)
              clear hp3 hf2 hcC
              go_wp2_with fail
              go_ret
              refine ⟨a3, c3, ?_, ?_, hxC⟩
              · rw [HR.out, splice_length _ _ _ _ hPl (by omega)]; rfl
              · rw [HR.out, splice_length _ _ _ _ hPl (by omega)]; unfold splice; rw [rows_append, rows_append, rows_one]; exact ho3.mono hB2
        · have d2 : ((str r.key).toList == (str o.key).toList) = false := beqStrF hk
          have HR := Lib.hid (show E = splice l i (i) (regOf o) by rw [HE.out]; unfold refSet; rw [← HP.out, hrm]; simp only; rw [if_neg hk])
          clear hk
          go_upto_region 6 with fail
          go_quiet (fail)
          have hxq := Ext.drewN no w5 nq
          generalize w5.drewN nq = w6 at *
          replace hW := hW.comp hxq
          replace hO := hO.ext (by simp) hxq (fun h => h)
          replace hX := hX.ext (by simp) hxq (fun h => h)
          replace ho1 := ho1.ext hxq (fun _ _ h => h)
          replace hBs := Nat.le_trans hBs hxq.size
          clear hxq
          clear d1 d2 q6 y0 y1 y2 y3 y4 y5 y6
          have z0 := hX.cell 0 _ rfl
          have z1 := hX.cell 1 _ rfl
          have z2 := hX.cell 2 _ rfl
          have z3 := hX.cell 3 _ rfl
          have z4 := hX.cell 4 _ rfl
          have z5 := hX.cell 5 _ rfl
          have z6 := hX.cell 6 _ rfl
          have hX1 : Rd (w6.alloc (.cells #[.string (str o.key), .string (str o.text), .int .i64 o.ver, .int .i64 o.time, .int .i64 o.dot.dev, .int .i64 o.dot.ep, .int .i64 o.dot.seq] 41)) (some ⟨w6.heap.size, 0, none⟩) (RegR.cells (regOf o)) := Rd.lit w6 #[.string (str o.key), .string (str o.text), .int .i64 o.ver, .int .i64 o.time, .int .i64 o.dot.dev, .int .i64 o.dot.ep, .int .i64 o.dot.seq] _ _
          go_wp2_with (at_builtin; refine wpList_append TReg rfl rfl rfl (ho1.alloc _) rfl hX1 rfl (one1Reg (regOf o)) ?c1 ?c2 ?c3 ?_)
          case c1 => unfold maxLen; omega
          case c2 => omega
          case c3 => first | omega | (simp; omega)
          intro a2 c2 w7 hp2
          have ho2 := hp2.own
          clear z0 z1 z2 z3 z4 z5 z6
          have hxB : Ext no w w7 := (hW.comp (Ext.alloc no _ _)).trans hp2.ext (fun k hk => by rintro ⟨ad, h, hb⟩; have := (ho1.base ad h).1; omega)
          have hzB : B ≤ w7.heap.size := Nat.le_trans hBs (Nat.le_trans (Ext.alloc no w6 (.cells #[.string (str o.key), .string (str o.text), .int .i64 o.ver, .int .i64 o.time, .int .i64 o.dot.dev, .int .i64 o.dot.ep, .int .i64 o.dot.seq] 41)).size hp2.ext.size)
          clear hp2 hX1 hX hO hW ho1
          have hcC : ∀ w, (Instr.sliceAt 26 (.slice (some ⟨b, off, none⟩) l.length lc) (some (.int .i64 (i : Int))) none none).run Tryz.prog w = .ok (.slice (cutAt (some ⟨b, off, none⟩) lc (i) 7) (l.length - (i)) (lc - (i))) w := fun w => run_cut_l TReg w (some ⟨b, off, none⟩) _ lc .i64 (i) (by omega)
          have hf2 : Rd w7 (cutAt (some ⟨b, off, none⟩) lc (i) 7) (rows RegR.cells (l.drop (i))) := by have q := (hr.no hxB).cutAt lc (i) 7 (fun e => by rw [rows_length kReg]; exact Nat.mul_le_mul_right _ (by omega)); rwa [rows_drop kReg] at q
          go_wp2_with (at_builtin; refine wpList_append TReg rfl rfl rfl ho2 rfl hf2 (by rw [rows_length kReg, List.length_drop]) (oneReg _) ?c1 ?c2 ?c3 ?_)
          case c1 => unfold maxLen; omega
          case c2 => omega
          case c3 => omega
          intro a3 c3 w8 hp3
          have ho3 := hp3.own
          have hxC : Ext no w w8 := hxB.trans hp3.ext (fun k hk => by rintro ⟨ad, h, hb⟩; have := (ho2.base ad h).1; omega)
          clear hp3 hf2 hcC
          go_wp2_with fail
          go_ret
          refine ⟨a3, c3, ?_, ?_, hxC⟩
          · rw [HR.out, splice_length _ _ _ _ hPl (by omega)]; rfl
          · rw [HR.out, splice_length _ _ _ _ hPl (by omega)]; unfold splice; rw [rows_append, rows_append, rows_one]; exact ho3.mono hB2
      · have hiE : i = l.length := by omega
        have d1 : decide (i < l.length) = false := decF hPn
        have HR := Lib.hid (show E = splice l i i (regOf o) by rw [HE.out]; unfold refSet; rw [← HP.out, List.getElem?_eq_none (by omega)])
        clear hiE
        go_upto_region 3 with fail
        go_quiet (fail)
        have hxq := Ext.drewN no wr nq
        generalize wr.drewN nq = wz at *
        replace hW := hW.comp hxq
        replace hO := hO.ext (by simp) hxq (fun h => h)
        replace hX := hX.ext (by simp) hxq (fun h => h)
        clear hxq
        clear q6
        have hA0 : Ext no w (wz.alloc (.cells #[] 41)) := hW.comp (Ext.alloc no _ _)
        have hf : Rd (wz.alloc (.cells #[] 41)) la (rows RegR.cells (l.take i)) := by have q := (hr.no hA0).take (i * 7); rwa [rows_take kReg] at q
        obtain ⟨B, hB⟩ : ∃ B, B = wz.heap.size := ⟨_, rfl⟩
        have hz : Own (wz.alloc (.cells #[] 41)) B (some ⟨wz.heap.size, 0, none⟩) 7 0 0 [] := by rw [hB]; exact Own.fresh wz _ _ _ _ _ _ _ _ (Nat.le_refl _) (by simp) (Nat.le_refl _) (Nat.zero_le _) (by simp) (by simp) (.inl (Nat.le_refl _))
        have hcA : ∀ w, (Instr.sliceAt 26 (.slice la l.length lc) none (some (.int .i64 (i : Int))) none).run Tryz.prog w = .ok (.slice la i lc) w := fun w => run_cut_h TReg w la _ lc .i64 i (by omega)
        have hB1 : gx < B := by have := hX.lt (by simp); omega
        have hB2 : w.heap.size ≤ B := by omega
        have hB3 : B ≤ wz.heap.size := by omega
        have hB4 : wz.heap.size ≤ B := by omega
        clear hB
        go_wp2_with (at_builtin; refine wpList_append TReg rfl rfl rfl hz rfl hf (by rw [rows_length kReg, List.length_take]; congr 1; omega) (oneReg _) ?c1 ?c2 (by simp; omega) ?_)
        case c1 => unfold maxLen; omega
        case c2 => omega
        intro a1 c1 w5 hp1
        try rw [Nat.zero_add]
        have ho1 := hp1.own
        rw [Nat.zero_add, List.nil_append] at ho1
        have hxA : Ext no wz w5 := (Ext.alloc no _ _).trans hp1.ext (fun k hk => by rintro ⟨ad, h, hb⟩; cases h; simp only at hb; omega)
        have hBs : B ≤ w5.heap.size := by have := hxA.size; omega
        clear hp1 hz hf hcA hB3 hB4 hA0
        replace hW := hW.comp hxA
        replace hO := hO.ext (by simp) hxA (fun h => h)
        replace hX := hX.ext (by simp) hxA (fun h => h)
        clear hxA
        have q6 := hO.cell 6 _ rfl
        go_upto_region 6 with fail
        go_quiet (fail)
        have hxq := Ext.drewN no w5 nq
        generalize w5.drewN nq = w6 at *
        replace hW := hW.comp hxq
        replace hO := hO.ext (by simp) hxq (fun h => h)
        replace hX := hX.ext (by simp) hxq (fun h => h)
        replace ho1 := ho1.ext hxq (fun _ _ h => h)
        replace hBs := Nat.le_trans hBs hxq.size
        clear hxq
        clear d1 q6
        have z0 := hX.cell 0 _ rfl
        have z1 := hX.cell 1 _ rfl
        have z2 := hX.cell 2 _ rfl
        have z3 := hX.cell 3 _ rfl
        have z4 := hX.cell 4 _ rfl
        have z5 := hX.cell 5 _ rfl
        have z6 := hX.cell 6 _ rfl
        have hX1 : Rd (w6.alloc (.cells #[.string (str o.key), .string (str o.text), .int .i64 o.ver, .int .i64 o.time, .int .i64 o.dot.dev, .int .i64 o.dot.ep, .int .i64 o.dot.seq] 41)) (some ⟨w6.heap.size, 0, none⟩) (RegR.cells (regOf o)) := Rd.lit w6 #[.string (str o.key), .string (str o.text), .int .i64 o.ver, .int .i64 o.time, .int .i64 o.dot.dev, .int .i64 o.dot.ep, .int .i64 o.dot.seq] _ _
        go_wp2_with (at_builtin; refine wpList_append TReg rfl rfl rfl (ho1.alloc _) rfl hX1 rfl (one1Reg (regOf o)) ?c1 ?c2 ?c3 ?_)
        case c1 => unfold maxLen; omega
        case c2 => omega
        case c3 => first | omega | (simp; omega)
        intro a2 c2 w7 hp2
        have ho2 := hp2.own
        clear z0 z1 z2 z3 z4 z5 z6
        have hxB : Ext no w w7 := (hW.comp (Ext.alloc no _ _)).trans hp2.ext (fun k hk => by rintro ⟨ad, h, hb⟩; have := (ho1.base ad h).1; omega)
        have hzB : B ≤ w7.heap.size := Nat.le_trans hBs (Nat.le_trans (Ext.alloc no w6 (.cells #[.string (str o.key), .string (str o.text), .int .i64 o.ver, .int .i64 o.time, .int .i64 o.dot.dev, .int .i64 o.dot.ep, .int .i64 o.dot.seq] 41)).size hp2.ext.size)
        clear hp2 hX1 hX hO hW ho1
        have hcC : ∀ w, (Instr.sliceAt 26 (.slice la l.length lc) (some (.int .i64 (i : Int))) none none).run Tryz.prog w = .ok (.slice (cutAt la lc (i) 7) (l.length - (i)) (lc - (i))) w := fun w => run_cut_l TReg w la _ lc .i64 (i) (by omega)
        have hf2 : Rd w7 (cutAt la lc (i) 7) (rows RegR.cells (l.drop (i))) := by have q := (hr.no hxB).cutAt lc (i) 7 (fun e => by rw [rows_length kReg]; exact Nat.mul_le_mul_right _ (by omega)); rwa [rows_drop kReg] at q
        go_wp2_with (at_builtin; refine wpList_append TReg rfl rfl rfl ho2 rfl hf2 (by rw [rows_length kReg, List.length_drop]) (oneReg _) ?c1 ?c2 ?c3 ?_)
        case c1 => unfold maxLen; omega
        case c2 => omega
        case c3 => omega
        intro a3 c3 w8 hp3
        have ho3 := hp3.own
        have hxC : Ext no w w8 := hxB.trans hp3.ext (fun k hk => by rintro ⟨ad, h, hb⟩; have := (ho2.base ad h).1; omega)
        clear hp3 hf2 hcC
        go_wp2_with fail
        go_ret
        refine ⟨a3, c3, ?_, ?_, hxC⟩
        · rw [HR.out, splice_length _ _ _ _ hPl (by omega)]; rfl
        · rw [HR.out, splice_length _ _ _ _ hPl (by omega)]; unfold splice; rw [rows_append, rows_append, rows_one]; exact ho3.mono hB2
set_option maxRecDepth 100000 in
set_option maxHeartbeats 8000000 in
theorem refadd_any (w : World) (la : Option Addr) (l : List ElemR) (lc : Nat) (o : OpR) (a : Option Addr) (c : Nat) (hr : Rd w la (rows ElemR.cells l)) (hl : l.length ≤ 1099511627775) (hlc : l.length ≤ lc) :
    Calls Tryz.prog 32 #[.slice la l.length lc, o.v a c] w fun e w' => ∃ a' c', e = .returned (.slice a' (refAdd l o).length c') ∧ Own w' w.heap.size a' 6 (refAdd l o).length c' (rows ElemR.cells (refAdd l o)) ∧ Ext no w w' := by
  obtain ⟨E, hE⟩ : ∃ E, E = refAdd l o := ⟨_, rfl⟩
  rw [← hE]
  have HE := Lib.hid hE
  clear hE
  obtain ⟨P, hP⟩ : ∃ P, P = posOf ElemR.k3 elemLt (Go.Esc.elemOf o).k3 l := ⟨_, rfl⟩
  have hPl : P ≤ l.length := by rw [hP]; exact posOf_le _ _
  have HL := Lib.hid (show ∀ (j : Nat) x, j < P → l[j]? = some x → elemLt (ElemR.k3 x) (Go.Esc.elemOf o).k3 = true by rw [hP]; exact pos_lt _ _)
  have HA := Lib.hid (show ∀ x, l[P]? = some x → elemLt (ElemR.k3 x) (Go.Esc.elemOf o).k3 = false by rw [hP]; exact pos_at _ _)
  have HP := Lib.hid hP
  clear hP
  go_enter Tryz.func32, Tryz.ntmps32
  unfold OpR.v
  go_upto_region 1 with fail
  have hO := Blk.lit w #[.int .i64 o.dot.dev, .int .i64 o.dot.ep, .int .i64 o.dot.seq, .int .i64 o.coll, .int .i64 o.ver, .int .i64 o.kind, .string (str o.key), .string (str o.text), .int .i64 o.n, .int .i64 o.time, .slice a o.dots.length c] 51
  have hW := Ext.alloc no w (.cells #[.int .i64 o.dot.dev, .int .i64 o.dot.ep, .int .i64 o.dot.seq, .int .i64 o.coll, .int .i64 o.ver, .int .i64 o.kind, .string (str o.key), .string (str o.text), .int .i64 o.n, .int .i64 o.time, .slice a o.dots.length c] 51)
  have hz1 := hO.lt (by simp)
  generalize w.alloc (.cells #[.int .i64 o.dot.dev, .int .i64 o.dot.ep, .int .i64 o.dot.seq, .int .i64 o.coll, .int .i64 o.ver, .int .i64 o.kind, .string (str o.key), .string (str o.text), .int .i64 o.n, .int .i64 o.time, .slice a o.dots.length c] 51) = w1 at *
  obtain ⟨g, hg⟩ : ∃ g, g = w.heap.size := ⟨_, rfl⟩
  have hgw : w.heap.size ≤ g := by omega
  rw [← hg] at hO hz1 ⊢
  clear hg
  have q0 := hO.cell 0 _ rfl
  have q1 := hO.cell 1 _ rfl
  have q2 := hO.cell 2 _ rfl
  have q3 := hO.cell 3 _ rfl
  have q4 := hO.cell 4 _ rfl
  have q5 := hO.cell 5 _ rfl
  have q6 := hO.cell 6 _ rfl
  have q7 := hO.cell 7 _ rfl
  have q8 := hO.cell 8 _ rfl
  have q9 := hO.cell 9 _ rfl
  have q10 := hO.cell 10 _ rfl
  go_upto_region 2 with fail
  have hX := Blk.lit w1 #[.string (str o.key), .string (str o.text), .int .i64 o.ver, .int .i64 o.dot.dev, .int .i64 o.dot.ep, .int .i64 o.dot.seq] 61
  have hxX := Ext.alloc no w1 (.cells #[.string (str o.key), .string (str o.text), .int .i64 o.ver, .int .i64 o.dot.dev, .int .i64 o.dot.ep, .int .i64 o.dot.seq] 61)
  replace hO := hO.ext (by simp) hxX (fun h => h)
  replace hW := hW.comp hxX
  generalize w1.alloc (.cells #[.string (str o.key), .string (str o.text), .int .i64 o.ver, .int .i64 o.dot.dev, .int .i64 o.dot.ep, .int .i64 o.dot.seq] 61) = w2 at *
  obtain ⟨gx, hgx⟩ : ∃ gx, gx = w1.heap.size := ⟨_, rfl⟩
  have hgx1 : w.heap.size ≤ gx := by omega
  have hgx2 : g < gx := by omega
  rw [← hgx] at hX ⊢
  clear hxX hgx hz1 q0 q1 q2 q3 q4 q5 q6 q7 q8 q9 q10
  have hXl := hX.lt (by simp)
  go_wp2_with fail
  go_loopw [6] (fun s6 wr => ∃ i : Nat, s6 = .int .i64 i ∧ i ≤ P ∧ Ext no w2 wr) (fun s6 _ => l.length - (intOf s6).toNat)
  case atStart => exact ⟨0, rfl, Nat.zero_le _, Ext.refl _ _⟩
  case round =>
    obtain ⟨i, rfl, hiP, hx⟩ := hrel
    have hx0 := hx
    replace hW := hW.comp hx
    replace hO := hO.ext (by simp) hx (fun h => h)
    replace hX := hX.ext (by simp) hx (fun h => h)
    clear hx
    have v0 := hX.cell 0 _ rfl
    have v1 := hX.cell 1 _ rfl
    have v2 := hX.cell 2 _ rfl
    have v3 := hX.cell 3 _ rfl
    have v4 := hX.cell 4 _ rfl
    have v5 := hX.cell 5 _ rfl
    by_cases hin : i < P
    · have hil : i < l.length := by omega
      have d1 : decide (i < l.length) = true := decT hil
      obtain ⟨x, hxm⟩ : ∃ x, l[i]? = some x := ⟨_, List.getElem?_eq_getElem (by omega)⟩
      have hlx : elemLt x.k3 (Go.Esc.elemOf o).k3 = true := HL.out i x hin hxm
      obtain ⟨b, off, hsa, _⟩ := rows_shape kElem (by omega) hr (by omega)
      have hrr := hr.no hW
      rw [hsa] at hrr
      have y0 : wr.cell? ⟨b, off + i * 6, none⟩ = some (.string (str x.key)) := rows_cell kElem hrr hxm 0 _ rfl
      have y1 : wr.cell? ⟨b, off + i * 6 + 1, none⟩ = some (.string (str x.text)) := rows_cell kElem hrr hxm 1 _ rfl
      have y2 : wr.cell? ⟨b, off + i * 6 + 2, none⟩ = some (.int .i64 x.ver) := rows_cell kElem hrr hxm 2 _ rfl
      have y3 : wr.cell? ⟨b, off + i * 6 + 3, none⟩ = some (.int .i64 x.dot.dev) := rows_cell kElem hrr hxm 3 _ rfl
      have y4 : wr.cell? ⟨b, off + i * 6 + 4, none⟩ = some (.int .i64 x.dot.ep) := rows_cell kElem hrr hxm 4 _ rfl
      have y5 : wr.cell? ⟨b, off + i * 6 + 5, none⟩ = some (.int .i64 x.dot.seq) := rows_cell kElem hrr hxm 5 _ rfl
      clear hrr
      subst hsa
      clear hxm
      go_upto_region 3 with fail
      refine wp_region_F [8, 9] (looks [(8, fun z => Ext no wr z), (9, fun z => Ext no wr z)]) (by kernel_rfl) ?_
      have hT0 : ∀ k, looks [(8, fun z => Ext no wr z), (9, fun z => Ext no wr z)] k (wr.drew) := looks_all ⟨Ext.drew no wr, Ext.drew no wr, trivial⟩
      refine wpF_take 0 (v := ?_) rfl (by kernel_rfl) (by kernel_rfl) (by kernel_rfl) (fun _ _ _ h => h) hT0 (by rfl) ?_ ?_
      rotate_left
      · (intro wq; go_simp; try with_reducible rfl)
      simp only [pz]
      refine wpF_take 1 (v := ?_) rfl (by kernel_rfl) (by kernel_rfl) (by kernel_rfl) (fun _ _ _ h => h) hT0 (by rfl) ?_ ?_
      rotate_left
      · (intro wq; go_simp; try with_reducible rfl)
      simp only [pz]
      refine wpF_take 2 (v := ?_) rfl (by kernel_rfl) (by kernel_rfl) (by kernel_rfl) (fun _ _ _ h => h) hT0 (by rfl) ?_ ?_
      rotate_left
      · (intro wq; go_simp; try with_reducible rfl)
      simp only [pz]
      refine wpF_take 3 (v := .bool true) rfl (by kernel_rfl) (by kernel_rfl) (by kernel_rfl) (fun _ _ _ h => h) hT0 (by rfl) (by intro wq; go_simp; first | done | rfl) ?_
      simp only [pz]
      refine wpF_take 4 (v := ?_) rfl (by kernel_rfl) (by kernel_rfl) (by kernel_rfl) (fun _ _ _ h => h) hT0 (by rfl) ?_ ?_
      rotate_left
      · (intro wq; go_simp; try with_reducible rfl)
      simp only [pz]
      refine wpF_take 5 (v := ?_) rfl (by kernel_rfl) (by kernel_rfl) (by kernel_rfl) (fun _ _ _ h => h) hT0 (by rfl) ?_ ?_
      rotate_left
      · (intro wq; go_simp; try with_reducible rfl)
      simp only [pz]
      refine wpF_take 6 (v := ?_) rfl (by kernel_rfl) (by kernel_rfl) (by kernel_rfl) (fun _ _ _ h => h) hT0 (by rfl) ?_ ?_
      rotate_left
      · (intro wq; go_simp; try with_reducible rfl)
      simp only [pz]
      refine wpF_take 7 (v := .pointer (some ⟨b, off + i * 6, none⟩)) rfl (by kernel_rfl) (by kernel_rfl) (by kernel_rfl) (fun _ _ _ h => h) hT0 (by rfl) (by intro wq; go_simp) ?_
      simp only [pz]
      refine wpF_look 8 (v := .agg #[.string (str x.key), .string (str x.text), .int .i64 x.ver, .int .i64 x.dot.dev, .int .i64 x.dot.ep, .int .i64 x.dot.seq]) rfl rfl (by kernel_rfl) (by kernel_rfl) (by kernel_rfl) (by kernel_rfl) (fun _ _ _ h => h) hT0 (by rfl) (fun w hS => by have hS : Ext no wr w := hS; have q0 := hS.keeps y0 (fun h => h); have q1 := hS.keeps y1 (fun h => h); have q2 := hS.keeps y2 (fun h => h); have q3 := hS.keeps y3 (fun h => h); have q4 := hS.keeps y4 (fun h => h); have q5 := hS.keeps y5 (fun h => h); go_simp) ?_
      simp only [pz]
      refine wpF_look 9 (v := .agg #[.string (str o.key), .string (str o.text), .int .i64 o.ver, .int .i64 o.dot.dev, .int .i64 o.dot.ep, .int .i64 o.dot.seq]) rfl rfl (by kernel_rfl) (by kernel_rfl) (by kernel_rfl) (by kernel_rfl) (fun _ _ _ h => h) hT0 (by rfl) (fun w hS => by have hS : Ext no wr w := hS; have q0 := hS.keeps v0 (fun h => h); have q1 := hS.keeps v1 (fun h => h); have q2 := hS.keeps v2 (fun h => h); have q3 := hS.keeps v3 (fun h => h); have q4 := hS.keeps v4 (fun h => h); have q5 := hS.keeps v5 (fun h => h); go_simp) ?_
      simp only [pz]
      refine wpF_exec 10 rfl (by kernel_rfl) (by rfl) ?_
      intro K hK
      go_simp
      refine (ahead_any _ x (Go.Esc.elemOf o)).mono ?_
      rintro e w3 ⟨rfl, hx3⟩
      rw [hlx]
      have hT1 : ∀ k, looks [(8, fun z => Ext no wr z), (9, fun z => Ext no wr z)] k (w3) := looks_all ⟨(Ext.drew no wr).comp hx3, (Ext.drew no wr).comp hx3, trivial⟩
      refine hK _ _ (looks [(8, fun z => Ext no wr z), (9, fun z => Ext no wr z)]) ⟨.inr (.inl (by kernel_rfl)), .inr (.inl (by kernel_rfl)), trivial⟩ hT1 ?_
      clear hK K
      try simp only [pz]
      replace hx3 := (Ext.drew no wr).comp hx3
      refine wpF_take 11 (v := ?_) rfl (by kernel_rfl) (by kernel_rfl) (by kernel_rfl) (fun _ _ _ h => h) hT1 (by rfl) ?_ ?_
      rotate_left
      · (intro wq; go_simp; try with_reducible rfl)
      simp only [pz]
      refine wpF_done (by kernel_rfl) ?_ _
      go_wp2_with fail
      go_roundw
      case rel => exact ⟨i + 1, by go_num, by omega, hx0.comp hx3⟩
      case measure => simp [intOf]; omega
    · have hiP2 : i = P := by omega
      subst hiP2
      clear hx0 hin hiP
      have HR := Lib.hid (show E = splice l i (i) (Go.Esc.elemOf o) by rw [HE.out]; unfold refAdd refAddP; rw [← HP.out])
      by_cases hPn : i < l.length
      · obtain ⟨r, hrm⟩ : ∃ r, l[i]? = some r := ⟨_, List.getElem?_eq_getElem hPn⟩
        have d1 : decide (i < l.length) = true := decT hPn
        have hlx : elemLt r.k3 (Go.Esc.elemOf o).k3 = false := HA.out r hrm
        obtain ⟨b, off, hsa, _⟩ := rows_shape kElem (by omega) hr (by omega)
        have hrr := hr.no hW
        rw [hsa] at hrr
        have y0 : wr.cell? ⟨b, off + i * 6, none⟩ = some (.string (str r.key)) := rows_cell kElem hrr hrm 0 _ rfl
        have y1 : wr.cell? ⟨b, off + i * 6 + 1, none⟩ = some (.string (str r.text)) := rows_cell kElem hrr hrm 1 _ rfl
        have y2 : wr.cell? ⟨b, off + i * 6 + 2, none⟩ = some (.int .i64 r.ver) := rows_cell kElem hrr hrm 2 _ rfl
        have y3 : wr.cell? ⟨b, off + i * 6 + 3, none⟩ = some (.int .i64 r.dot.dev) := rows_cell kElem hrr hrm 3 _ rfl
        have y4 : wr.cell? ⟨b, off + i * 6 + 4, none⟩ = some (.int .i64 r.dot.ep) := rows_cell kElem hrr hrm 4 _ rfl
        have y5 : wr.cell? ⟨b, off + i * 6 + 5, none⟩ = some (.int .i64 r.dot.seq) := rows_cell kElem hrr hrm 5 _ rfl
        clear hrr
        subst hsa
        clear hrm
        go_upto_region 3 with fail
        refine wp_region_F [8, 9] (looks [(8, fun z => Ext no wr z), (9, fun z => Ext no wr z)]) (by kernel_rfl) ?_
        have hT0 : ∀ k, looks [(8, fun z => Ext no wr z), (9, fun z => Ext no wr z)] k (wr.drew) := looks_all ⟨Ext.drew no wr, Ext.drew no wr, trivial⟩
        refine wpF_take 0 (v := ?_) rfl (by kernel_rfl) (by kernel_rfl) (by kernel_rfl) (fun _ _ _ h => h) hT0 (by rfl) ?_ ?_
        rotate_left
        · (intro wq; go_simp; try with_reducible rfl)
        simp only [pz]
        refine wpF_take 1 (v := ?_) rfl (by kernel_rfl) (by kernel_rfl) (by kernel_rfl) (fun _ _ _ h => h) hT0 (by rfl) ?_ ?_
        rotate_left
        · (intro wq; go_simp; try with_reducible rfl)
        simp only [pz]
        refine wpF_take 2 (v := ?_) rfl (by kernel_rfl) (by kernel_rfl) (by kernel_rfl) (fun _ _ _ h => h) hT0 (by rfl) ?_ ?_
        rotate_left
        · (intro wq; go_simp; try with_reducible rfl)
        simp only [pz]
        refine wpF_take 3 (v := .bool true) rfl (by kernel_rfl) (by kernel_rfl) (by kernel_rfl) (fun _ _ _ h => h) hT0 (by rfl) (by intro wq; go_simp; first | done | rfl) ?_
        simp only [pz]
        refine wpF_take 4 (v := ?_) rfl (by kernel_rfl) (by kernel_rfl) (by kernel_rfl) (fun _ _ _ h => h) hT0 (by rfl) ?_ ?_
        rotate_left
        · (intro wq; go_simp; try with_reducible rfl)
        simp only [pz]
        refine wpF_take 5 (v := ?_) rfl (by kernel_rfl) (by kernel_rfl) (by kernel_rfl) (fun _ _ _ h => h) hT0 (by rfl) ?_ ?_
        rotate_left
        · (intro wq; go_simp; try with_reducible rfl)
        simp only [pz]
        refine wpF_take 6 (v := ?_) rfl (by kernel_rfl) (by kernel_rfl) (by kernel_rfl) (fun _ _ _ h => h) hT0 (by rfl) ?_ ?_
        rotate_left
        · (intro wq; go_simp; try with_reducible rfl)
        simp only [pz]
        refine wpF_take 7 (v := .pointer (some ⟨b, off + i * 6, none⟩)) rfl (by kernel_rfl) (by kernel_rfl) (by kernel_rfl) (fun _ _ _ h => h) hT0 (by rfl) (by intro wq; go_simp) ?_
        simp only [pz]
        refine wpF_look 8 (v := .agg #[.string (str r.key), .string (str r.text), .int .i64 r.ver, .int .i64 r.dot.dev, .int .i64 r.dot.ep, .int .i64 r.dot.seq]) rfl rfl (by kernel_rfl) (by kernel_rfl) (by kernel_rfl) (by kernel_rfl) (fun _ _ _ h => h) hT0 (by rfl) (fun w hS => by have hS : Ext no wr w := hS; have q0 := hS.keeps y0 (fun h => h); have q1 := hS.keeps y1 (fun h => h); have q2 := hS.keeps y2 (fun h => h); have q3 := hS.keeps y3 (fun h => h); have q4 := hS.keeps y4 (fun h => h); have q5 := hS.keeps y5 (fun h => h); go_simp) ?_
        simp only [pz]
        refine wpF_look 9 (v := .agg #[.string (str o.key), .string (str o.text), .int .i64 o.ver, .int .i64 o.dot.dev, .int .i64 o.dot.ep, .int .i64 o.dot.seq]) rfl rfl (by kernel_rfl) (by kernel_rfl) (by kernel_rfl) (by kernel_rfl) (fun _ _ _ h => h) hT0 (by rfl) (fun w hS => by have hS : Ext no wr w := hS; have q0 := hS.keeps v0 (fun h => h); have q1 := hS.keeps v1 (fun h => h); have q2 := hS.keeps v2 (fun h => h); have q3 := hS.keeps v3 (fun h => h); have q4 := hS.keeps v4 (fun h => h); have q5 := hS.keeps v5 (fun h => h); go_simp) ?_
        simp only [pz]
        refine wpF_exec 10 rfl (by kernel_rfl) (by rfl) ?_
        intro K hK
        go_simp
        refine (ahead_any _ r (Go.Esc.elemOf o)).mono ?_
        rintro e w3 ⟨rfl, hx3⟩
        rw [hlx]
        have hT1 : ∀ k, looks [(8, fun z => Ext no wr z), (9, fun z => Ext no wr z)] k (w3) := looks_all ⟨(Ext.drew no wr).comp hx3, (Ext.drew no wr).comp hx3, trivial⟩
        refine hK _ _ (looks [(8, fun z => Ext no wr z), (9, fun z => Ext no wr z)]) ⟨.inr (.inl (by kernel_rfl)), .inr (.inl (by kernel_rfl)), trivial⟩ hT1 ?_
        clear hK K
        try simp only [pz]
        replace hx3 := (Ext.drew no wr).comp hx3
        refine wpF_take 11 (v := ?_) rfl (by kernel_rfl) (by kernel_rfl) (by kernel_rfl) (fun _ _ _ h => h) hT1 (by rfl) ?_ ?_
        rotate_left
        · (intro wq; go_simp; try with_reducible rfl)
        simp only [pz]
        refine wpF_done (by kernel_rfl) ?_ _
        clear d1 y0 y1 y2 y3 y4 y5 v0 v1 v2 v3 v4 v5
        replace hW := hW.comp hx3
        replace hO := hO.ext (by simp) hx3 (fun h => h)
        replace hX := hX.ext (by simp) hx3 (fun h => h)
        clear hx3
        have hA0 : Ext no w (w3.alloc (.cells #[] 61)) := hW.comp (Ext.alloc no _ _)
        have hf : Rd (w3.alloc (.cells #[] 61)) (some ⟨b, off, none⟩) (rows ElemR.cells (l.take i)) := by have q := (hr.no hA0).take (i * 6); rwa [rows_take kElem] at q
        obtain ⟨B, hB⟩ : ∃ B, B = w3.heap.size := ⟨_, rfl⟩
        have hz : Own (w3.alloc (.cells #[] 61)) B (some ⟨w3.heap.size, 0, none⟩) 6 0 0 [] := by rw [hB]; exact Own.fresh w3 _ _ _ _ _ _ _ _ (Nat.le_refl _) (by simp) (Nat.le_refl _) (Nat.zero_le _) (by simp) (by simp) (.inl (Nat.le_refl _))
        have hcA : ∀ w, (Instr.sliceAt 27 (.slice (some ⟨b, off, none⟩) l.length lc) none (some (.int .i64 (i : Int))) none).run Tryz.prog w = .ok (.slice (some ⟨b, off, none⟩) i lc) w := fun w => run_cut_h TElem w (some ⟨b, off, none⟩) _ lc .i64 i (by omega)
        have hB1 : gx < B := by have := hX.lt (by simp); omega
        have hB2 : w.heap.size ≤ B := by omega
        have hB3 : B ≤ w3.heap.size := by omega
        have hB4 : w3.heap.size ≤ B := by omega
        clear hB
        go_wp2_with (at_builtin; refine wpList_append TElem rfl rfl rfl hz rfl hf (by rw [rows_length kElem, List.length_take]; congr 1; omega) (oneElem _) ?c1 ?c2 (by simp; omega) ?_)
        case c1 => unfold maxLen; omega
        case c2 => omega
        intro a1 c1 w5 hp1
        try rw [Nat.zero_add]
        have ho1 := hp1.own
        rw [Nat.zero_add, List.nil_append] at ho1
        have hxA : Ext no w3 w5 := (Ext.alloc no _ _).trans hp1.ext (fun k hk => by rintro ⟨ad, h, hb⟩; cases h; simp only at hb; omega)
        have hBs : B ≤ w5.heap.size := by have := hxA.size; omega
        clear hp1 hz hf hcA hB3 hB4 hA0
        replace hW := hW.comp hxA
        replace hO := hO.ext (by simp) hxA (fun h => h)
        replace hX := hX.ext (by simp) hxA (fun h => h)
        clear hxA
        have z0 := hX.cell 0 _ rfl
        have z1 := hX.cell 1 _ rfl
        have z2 := hX.cell 2 _ rfl
        have z3 := hX.cell 3 _ rfl
        have z4 := hX.cell 4 _ rfl
        have z5 := hX.cell 5 _ rfl
        have hX1 : Rd (w5.alloc (.cells #[.string (str o.key), .string (str o.text), .int .i64 o.ver, .int .i64 o.dot.dev, .int .i64 o.dot.ep, .int .i64 o.dot.seq] 61)) (some ⟨w5.heap.size, 0, none⟩) (ElemR.cells (Go.Esc.elemOf o)) := Rd.lit w5 #[.string (str o.key), .string (str o.text), .int .i64 o.ver, .int .i64 o.dot.dev, .int .i64 o.dot.ep, .int .i64 o.dot.seq] _ _
        go_wp2_with (at_builtin; refine wpList_append TElem rfl rfl rfl (ho1.alloc _) rfl hX1 rfl (one1Elem (Go.Esc.elemOf o)) ?c1 ?c2 ?c3 ?_)
        case c1 => unfold maxLen; omega
        case c2 => omega
        case c3 => first | omega | (simp; omega)
        intro a2 c2 w7 hp2
        have ho2 := hp2.own
        clear z0 z1 z2 z3 z4 z5
        have hxB : Ext no w w7 := (hW.comp (Ext.alloc no _ _)).trans hp2.ext (fun k hk => by rintro ⟨ad, h, hb⟩; have := (ho1.base ad h).1; omega)
        have hzB : B ≤ w7.heap.size := Nat.le_trans hBs (Nat.le_trans (Ext.alloc no w5 (.cells #[.string (str o.key), .string (str o.text), .int .i64 o.ver, .int .i64 o.dot.dev, .int .i64 o.dot.ep, .int .i64 o.dot.seq] 61)).size hp2.ext.size)
        clear hp2 hX1 hX hO hW ho1
        have hcC : ∀ w, (Instr.sliceAt 27 (.slice (some ⟨b, off, none⟩) l.length lc) (some (.int .i64 (i : Int))) none none).run Tryz.prog w = .ok (.slice (cutAt (some ⟨b, off, none⟩) lc (i) 6) (l.length - (i)) (lc - (i))) w := fun w => run_cut_l TElem w (some ⟨b, off, none⟩) _ lc .i64 (i) (by omega)
        have hf2 : Rd w7 (cutAt (some ⟨b, off, none⟩) lc (i) 6) (rows ElemR.cells (l.drop (i))) := by have q := (hr.no hxB).cutAt lc (i) 6 (fun e => by rw [rows_length kElem]; exact Nat.mul_le_mul_right _ (by omega)); rwa [rows_drop kElem] at q
        go_wp2_with (at_builtin; refine wpList_append TElem rfl rfl rfl ho2 rfl hf2 (by rw [rows_length kElem, List.length_drop]) (oneElem _) ?c1 ?c2 ?c3 ?_)
        case c1 => unfold maxLen; omega
        case c2 => omega
        case c3 => omega
        intro a3 c3 w8 hp3
        have ho3 := hp3.own
        have hxC : Ext no w w8 := hxB.trans hp3.ext (fun k hk => by rintro ⟨ad, h, hb⟩; have := (ho2.base ad h).1; omega)
        clear hp3 hf2 hcC
        go_wp2_with fail
        go_ret
        refine ⟨a3, c3, ?_, ?_, hxC⟩
        · rw [HR.out, splice_length _ _ _ _ hPl (by omega)]; rfl
        · rw [HR.out, splice_length _ _ _ _ hPl (by omega)]; unfold splice; rw [rows_append, rows_append, rows_one]; exact ho3.mono hB2
      · have d1 : decide (i < l.length) = false := decF hPn
        go_upto_region 3 with fail
        refine wp_region_F [] (looks []) (by kernel_rfl) ?_
        have hT0 : ∀ k, looks [] k (wr.drew) := looks_all trivial
        refine wpF_take 0 (v := ?_) rfl (by kernel_rfl) (by kernel_rfl) (by kernel_rfl) (fun _ _ _ h => h) hT0 (by rfl) ?_ ?_
        rotate_left
        · (intro wq; go_simp; try with_reducible rfl)
        simp only [pz]
        refine wpF_take 1 (v := ?_) rfl (by kernel_rfl) (by kernel_rfl) (by kernel_rfl) (fun _ _ _ h => h) hT0 (by rfl) ?_ ?_
        rotate_left
        · (intro wq; go_simp; try with_reducible rfl)
        simp only [pz]
        refine wpF_take 2 (v := ?_) rfl (by kernel_rfl) (by kernel_rfl) (by kernel_rfl) (fun _ _ _ h => h) hT0 (by rfl) ?_ ?_
        rotate_left
        · (intro wq; go_simp; try with_reducible rfl)
        simp only [pz]
        refine wpF_take 3 (v := .bool false) rfl (by kernel_rfl) (by kernel_rfl) (by kernel_rfl) (fun _ _ _ h => h) hT0 (by rfl) (by intro wq; go_simp; first | done | rfl) ?_
        simp only [pz]
        refine wpF_take 4 (v := ?_) rfl (by kernel_rfl) (by kernel_rfl) (by kernel_rfl) (fun _ _ _ h => h) hT0 (by rfl) ?_ ?_
        rotate_left
        · (intro wq; go_simp; try with_reducible rfl)
        simp only [pz]
        refine wpF_skip 5 rfl (by kernel_rfl) (by kernel_rfl) (by kernel_rfl) (fun _ _ _ h => h) hT0 (by rfl) ?_
        simp only [pz]
        refine wpF_skip 6 rfl (by kernel_rfl) (by kernel_rfl) (by kernel_rfl) (fun _ _ _ h => h) hT0 (by rfl) ?_
        simp only [pz]
        refine wpF_skip 7 rfl (by kernel_rfl) (by kernel_rfl) (by kernel_rfl) (fun _ _ _ h => h) hT0 (by rfl) ?_
        simp only [pz]
        refine wpF_skip 8 rfl (by kernel_rfl) (by kernel_rfl) (by kernel_rfl) (fun _ _ _ h => h) hT0 (by rfl) ?_
        simp only [pz]
        refine wpF_skip 9 rfl (by kernel_rfl) (by kernel_rfl) (by kernel_rfl) (fun _ _ _ h => h) hT0 (by rfl) ?_
        simp only [pz]
        refine wpF_skip 10 rfl (by kernel_rfl) (by kernel_rfl) (by kernel_rfl) (fun _ _ _ h => h) hT0 (by rfl) ?_
        simp only [pz]
        refine wpF_take 11 (v := ?_) rfl (by kernel_rfl) (by kernel_rfl) (by kernel_rfl) (fun _ _ _ h => h) hT0 (by rfl) ?_ ?_
        rotate_left
        · (intro wq; go_simp; try with_reducible rfl)
        simp only [pz]
        refine wpF_done (by kernel_rfl) ?_ _
        have hx3 := Ext.drew no wr
        generalize wr.drew = w3 at *
        clear d1 v0 v1 v2 v3 v4 v5
        replace hW := hW.comp hx3
        replace hO := hO.ext (by simp) hx3 (fun h => h)
        replace hX := hX.ext (by simp) hx3 (fun h => h)
        clear hx3
        have hA0 : Ext no w (w3.alloc (.cells #[] 61)) := hW.comp (Ext.alloc no _ _)
        have hf : Rd (w3.alloc (.cells #[] 61)) la (rows ElemR.cells (l.take i)) := by have q := (hr.no hA0).take (i * 6); rwa [rows_take kElem] at q
        obtain ⟨B, hB⟩ : ∃ B, B = w3.heap.size := ⟨_, rfl⟩
        have hz : Own (w3.alloc (.cells #[] 61)) B (some ⟨w3.heap.size, 0, none⟩) 6 0 0 [] := by rw [hB]; exact Own.fresh w3 _ _ _ _ _ _ _ _ (Nat.le_refl _) (by simp) (Nat.le_refl _) (Nat.zero_le _) (by simp) (by simp) (.inl (Nat.le_refl _))
        have hcA : ∀ w, (Instr.sliceAt 27 (.slice la l.length lc) none (some (.int .i64 (i : Int))) none).run Tryz.prog w = .ok (.slice la i lc) w := fun w => run_cut_h TElem w la _ lc .i64 i (by omega)
        have hB1 : gx < B := by have := hX.lt (by simp); omega
        have hB2 : w.heap.size ≤ B := by omega
        have hB3 : B ≤ w3.heap.size := by omega
        have hB4 : w3.heap.size ≤ B := by omega
        clear hB
        go_wp2_with (at_builtin; refine wpList_append TElem rfl rfl rfl hz rfl hf (by rw [rows_length kElem, List.length_take]; congr 1; omega) (oneElem _) ?c1 ?c2 (by simp; omega) ?_)
        case c1 => unfold maxLen; omega
        case c2 => omega
        intro a1 c1 w5 hp1
        try rw [Nat.zero_add]
        have ho1 := hp1.own
        rw [Nat.zero_add, List.nil_append] at ho1
        have hxA : Ext no w3 w5 := (Ext.alloc no _ _).trans hp1.ext (fun k hk => by rintro ⟨ad, h, hb⟩; cases h; simp only at hb; omega)
        have hBs : B ≤ w5.heap.size := by have := hxA.size; omega
        clear hp1 hz hf hcA hB3 hB4 hA0
        replace hW := hW.comp hxA
        replace hO := hO.ext (by simp) hxA (fun h => h)
        replace hX := hX.ext (by simp) hxA (fun h => h)
        clear hxA
        have z0 := hX.cell 0 _ rfl
        have z1 := hX.cell 1 _ rfl
        have z2 := hX.cell 2 _ rfl
        have z3 := hX.cell 3 _ rfl
        have z4 := hX.cell 4 _ rfl
        have z5 := hX.cell 5 _ rfl
        have hX1 : Rd (w5.alloc (.cells #[.string (str o.key), .string (str o.text), .int .i64 o.ver, .int .i64 o.dot.dev, .int .i64 o.dot.ep, .int .i64 o.dot.seq] 61)) (some ⟨w5.heap.size, 0, none⟩) (ElemR.cells (Go.Esc.elemOf o)) := Rd.lit w5 #[.string (str o.key), .string (str o.text), .int .i64 o.ver, .int .i64 o.dot.dev, .int .i64 o.dot.ep, .int .i64 o.dot.seq] _ _
        go_wp2_with (at_builtin; refine wpList_append TElem rfl rfl rfl (ho1.alloc _) rfl hX1 rfl (one1Elem (Go.Esc.elemOf o)) ?c1 ?c2 ?c3 ?_)
        case c1 => unfold maxLen; omega
        case c2 => omega
        case c3 => first | omega | (simp; omega)
        intro a2 c2 w7 hp2
        have ho2 := hp2.own
        clear z0 z1 z2 z3 z4 z5
        have hxB : Ext no w w7 := (hW.comp (Ext.alloc no _ _)).trans hp2.ext (fun k hk => by rintro ⟨ad, h, hb⟩; have := (ho1.base ad h).1; omega)
        have hzB : B ≤ w7.heap.size := Nat.le_trans hBs (Nat.le_trans (Ext.alloc no w5 (.cells #[.string (str o.key), .string (str o.text), .int .i64 o.ver, .int .i64 o.dot.dev, .int .i64 o.dot.ep, .int .i64 o.dot.seq] 61)).size hp2.ext.size)
        clear hp2 hX1 hX hO hW ho1
        have hcC : ∀ w, (Instr.sliceAt 27 (.slice la l.length lc) (some (.int .i64 (i : Int))) none none).run Tryz.prog w = .ok (.slice (cutAt la lc (i) 6) (l.length - (i)) (lc - (i))) w := fun w => run_cut_l TElem w la _ lc .i64 (i) (by omega)
        have hf2 : Rd w7 (cutAt la lc (i) 6) (rows ElemR.cells (l.drop (i))) := by have q := (hr.no hxB).cutAt lc (i) 6 (fun e => by rw [rows_length kElem]; exact Nat.mul_le_mul_right _ (by omega)); rwa [rows_drop kElem] at q
        go_wp2_with (at_builtin; refine wpList_append TElem rfl rfl rfl ho2 rfl hf2 (by rw [rows_length kElem, List.length_drop]) (oneElem _) ?c1 ?c2 ?c3 ?_)
        case c1 => unfold maxLen; omega
        case c2 => omega
        case c3 => omega
        intro a3 c3 w8 hp3
        have ho3 := hp3.own
        have hxC : Ext no w w8 := hxB.trans hp3.ext (fun k hk => by rintro ⟨ad, h, hb⟩; have := (ho2.base ad h).1; omega)
        clear hp3 hf2 hcC
        go_wp2_with fail
        go_ret
        refine ⟨a3, c3, ?_, ?_, hxC⟩
        · rw [HR.out, splice_length _ _ _ _ hPl (by omega)]; rfl
        · rw [HR.out, splice_length _ _ _ _ hPl (by omega)]; unfold splice; rw [rows_append, rows_append, rows_one]; exact ho3.mono hB2
set_option maxRecDepth 100000 in
set_option maxHeartbeats 8000000 in
theorem refput_any (w : World) (la : Option Addr) (l : List DotR) (lc : Nat) (d : DotR) (hr : Rd w la (rows DotR.cells l)) (hl : l.length ≤ 1099511627775) (hlc : l.length ≤ lc) :
    Calls Tryz.prog 67 #[.slice la l.length lc, .agg #[.int .i64 d.dev, .int .i64 d.ep, .int .i64 d.seq]] w fun e w' => ∃ a' c', e = .returned (.slice a' (refPut l d).length c') ∧ Own w' w.heap.size a' 3 (refPut l d).length c' (rows DotR.cells (refPut l d)) ∧ Ext no w w' := by
  obtain ⟨E, hE⟩ : ∃ E, E = refPut l d := ⟨_, rfl⟩
  rw [← hE]
  have HE := Lib.hid hE
  clear hE
  obtain ⟨P, hP⟩ : ∃ P, P = posOf DotR.pair pairLt d.pair l := ⟨_, rfl⟩
  have hPl : P ≤ l.length := by rw [hP]; exact posOf_le _ _
  have HL := Lib.hid (show ∀ (j : Nat) x, j < P → l[j]? = some x → pairLt x.pair d.pair = true by rw [hP]; exact pos_lt _ _)
  have HA := Lib.hid (show ∀ x, l[P]? = some x → pairLt x.pair d.pair = false by rw [hP]; exact pos_at _ _)
  have HP := Lib.hid hP
  clear hP
  go_enter Tryz.func67, Tryz.ntmps67
  go_upto_region 1 with fail
  have hX := Blk.lit w #[.int .i64 d.dev, .int .i64 d.ep, .int .i64 d.seq] 38
  have hW := Ext.alloc no w (.cells #[.int .i64 d.dev, .int .i64 d.ep, .int .i64 d.seq] 38)
  have hXl := hX.lt (by simp)
  generalize w.alloc (.cells #[.int .i64 d.dev, .int .i64 d.ep, .int .i64 d.seq] 38) = w2 at *
  obtain ⟨gx, hg⟩ : ∃ gx, gx = w.heap.size := ⟨_, rfl⟩
  have hgx1 : w.heap.size ≤ gx := by omega
  rw [← hg] at hX hXl ⊢
  clear hg
  have hO := hX
  go_wp2_with fail
  go_loopw [5] (fun s6 wr => ∃ i : Nat, s6 = .int .i64 i ∧ i ≤ P ∧ Ext no w2 wr) (fun s6 _ => l.length - (intOf s6).toNat)
  case atStart => exact ⟨0, rfl, Nat.zero_le _, Ext.refl _ _⟩
  case round =>
    obtain ⟨i, rfl, hiP, hx⟩ := hrel
    have hx0 := hx
    replace hW := hW.comp hx
    replace hO := hO.ext (by simp) hx (fun h => h)
    replace hX := hX.ext (by simp) hx (fun h => h)
    clear hx
    have v0 := hX.cell 0 _ rfl
    have v1 := hX.cell 1 _ rfl
    have v2 := hX.cell 2 _ rfl
    by_cases hin : i < P
    · have hil : i < l.length := by omega
      have d1 : decide (i < l.length) = true := decT hil
      obtain ⟨x, hxm⟩ : ∃ x, l[i]? = some x := ⟨_, List.getElem?_eq_getElem (by omega)⟩
      have hlx : pairLt x.pair d.pair = true := HL.out i x hin hxm
      obtain ⟨b, off, hsa, _⟩ := rows_shape kEntry (by omega) hr (by omega)
      have hrr := hr.no hW
      rw [hsa] at hrr
      have y0 : wr.cell? ⟨b, off + i * 3, none⟩ = some (.int .i64 x.dev) := rows_cell kEntry hrr hxm 0 _ rfl
      have y1 : wr.cell? ⟨b, off + i * 3 + 1, none⟩ = some (.int .i64 x.ep) := rows_cell kEntry hrr hxm 1 _ rfl
      have y2 : wr.cell? ⟨b, off + i * 3 + 2, none⟩ = some (.int .i64 x.seq) := rows_cell kEntry hrr hxm 2 _ rfl
      clear hrr
      subst hsa
      clear hxm
      go_upto_region 2 with fail
      refine wp_region_F [8, 9] (looks [(8, fun z => Ext no wr z), (9, fun z => Ext no wr z)]) (by kernel_rfl) ?_
      have hT0 : ∀ k, looks [(8, fun z => Ext no wr z), (9, fun z => Ext no wr z)] k (wr.drew) := looks_all ⟨Ext.drew no wr, Ext.drew no wr, trivial⟩
      refine wpF_take 0 (v := ?_) rfl (by kernel_rfl) (by kernel_rfl) (by kernel_rfl) (fun _ _ _ h => h) hT0 (by rfl) ?_ ?_
      rotate_left
      · (intro wq; go_simp; try with_reducible rfl)
      simp only [pz]
      refine wpF_take 1 (v := ?_) rfl (by kernel_rfl) (by kernel_rfl) (by kernel_rfl) (fun _ _ _ h => h) hT0 (by rfl) ?_ ?_
      rotate_left
      · (intro wq; go_simp; try with_reducible rfl)
      simp only [pz]
      refine wpF_take 2 (v := ?_) rfl (by kernel_rfl) (by kernel_rfl) (by kernel_rfl) (fun _ _ _ h => h) hT0 (by rfl) ?_ ?_
      rotate_left
      · (intro wq; go_simp; try with_reducible rfl)
      simp only [pz]
      refine wpF_take 3 (v := .bool true) rfl (by kernel_rfl) (by kernel_rfl) (by kernel_rfl) (fun _ _ _ h => h) hT0 (by rfl) (by intro wq; go_simp; first | done | rfl) ?_
      simp only [pz]
      refine wpF_take 4 (v := ?_) rfl (by kernel_rfl) (by kernel_rfl) (by kernel_rfl) (fun _ _ _ h => h) hT0 (by rfl) ?_ ?_
      rotate_left
      · (intro wq; go_simp; try with_reducible rfl)
      simp only [pz]
      refine wpF_take 5 (v := ?_) rfl (by kernel_rfl) (by kernel_rfl) (by kernel_rfl) (fun _ _ _ h => h) hT0 (by rfl) ?_ ?_
      rotate_left
      · (intro wq; go_simp; try with_reducible rfl)
      simp only [pz]
      refine wpF_take 6 (v := ?_) rfl (by kernel_rfl) (by kernel_rfl) (by kernel_rfl) (fun _ _ _ h => h) hT0 (by rfl) ?_ ?_
      rotate_left
      · (intro wq; go_simp; try with_reducible rfl)
      simp only [pz]
      refine wpF_take 7 (v := .pointer (some ⟨b, off + i * 3, none⟩)) rfl (by kernel_rfl) (by kernel_rfl) (by kernel_rfl) (fun _ _ _ h => h) hT0 (by rfl) (by intro wq; go_simp) ?_
      simp only [pz]
      refine wpF_look 8 (v := .agg #[.int .i64 x.dev, .int .i64 x.ep, .int .i64 x.seq]) rfl rfl (by kernel_rfl) (by kernel_rfl) (by kernel_rfl) (by kernel_rfl) (fun _ _ _ h => h) hT0 (by rfl) (fun w hS => by have hS : Ext no wr w := hS; have q0 := hS.keeps y0 (fun h => h); have q1 := hS.keeps y1 (fun h => h); have q2 := hS.keeps y2 (fun h => h); go_simp) ?_
      simp only [pz]
      refine wpF_look 9 (v := .agg #[.int .i64 d.dev, .int .i64 d.ep, .int .i64 d.seq]) rfl rfl (by kernel_rfl) (by kernel_rfl) (by kernel_rfl) (by kernel_rfl) (fun _ _ _ h => h) hT0 (by rfl) (fun w hS => by have hS : Ext no wr w := hS; have q0 := hS.keeps v0 (fun h => h); have q1 := hS.keeps v1 (fun h => h); have q2 := hS.keeps v2 (fun h => h); go_simp) ?_
      simp only [pz]
      refine wpF_exec 10 rfl (by kernel_rfl) (by rfl) ?_
      intro K hK
      go_simp
      refine (less7_any _ x d).mono ?_
      rintro e w3 ⟨rfl, hx3⟩
      rw [hlx]
      have hT1 : ∀ k, looks [(8, fun z => Ext no wr z), (9, fun z => Ext no wr z)] k (w3) := looks_all ⟨(Ext.drew no wr).comp hx3, (Ext.drew no wr).comp hx3, trivial⟩
      refine hK _ _ (looks [(8, fun z => Ext no wr z), (9, fun z => Ext no wr z)]) ⟨.inr (.inl (by kernel_rfl)), .inr (.inl (by kernel_rfl)), trivial⟩ hT1 ?_
      clear hK K
      try simp only [pz]
      replace hx3 := (Ext.drew no wr).comp hx3
      refine wpF_take 11 (v := ?_) rfl (by kernel_rfl) (by kernel_rfl) (by kernel_rfl) (fun _ _ _ h => h) hT1 (by rfl) ?_ ?_
      rotate_left
      · (intro wq; go_simp; try with_reducible rfl)
      simp only [pz]
      refine wpF_done (by kernel_rfl) ?_ _
      go_wp2_with fail
      go_roundw
      case rel => exact ⟨i + 1, by go_num, by omega, hx0.comp hx3⟩
      case measure => simp [intOf]; omega
    · have hiP2 : i = P := by omega
      subst hiP2
      clear hx0 hin hiP
      by_cases hPn : i < l.length
      · obtain ⟨r, hrm⟩ : ∃ r, l[i]? = some r := ⟨_, List.getElem?_eq_getElem hPn⟩
        have d1 : decide (i < l.length) = true := decT hPn
        have hlx : pairLt r.pair d.pair = false := HA.out r hrm
        obtain ⟨b, off, hsa, _⟩ := rows_shape kEntry (by omega) hr (by omega)
        have hrr := hr.no hW
        rw [hsa] at hrr
        have y0 : wr.cell? ⟨b, off + i * 3, none⟩ = some (.int .i64 r.dev) := rows_cell kEntry hrr hrm 0 _ rfl
        have y1 : wr.cell? ⟨b, off + i * 3 + 1, none⟩ = some (.int .i64 r.ep) := rows_cell kEntry hrr hrm 1 _ rfl
        have y2 : wr.cell? ⟨b, off + i * 3 + 2, none⟩ = some (.int .i64 r.seq) := rows_cell kEntry hrr hrm 2 _ rfl
        clear hrr
        subst hsa
        go_upto_region 2 with fail
        refine wp_region_F [8, 9] (looks [(8, fun z => Ext no wr z), (9, fun z => Ext no wr z)]) (by kernel_rfl) ?_
        have hT0 : ∀ k, looks [(8, fun z => Ext no wr z), (9, fun z => Ext no wr z)] k (wr.drew) := looks_all ⟨Ext.drew no wr, Ext.drew no wr, trivial⟩
        refine wpF_take 0 (v := ?_) rfl (by kernel_rfl) (by kernel_rfl) (by kernel_rfl) (fun _ _ _ h => h) hT0 (by rfl) ?_ ?_
        rotate_left
        · (intro wq; go_simp; try with_reducible rfl)
        simp only [pz]
        refine wpF_take 1 (v := ?_) rfl (by kernel_rfl) (by kernel_rfl) (by kernel_rfl) (fun _ _ _ h => h) hT0 (by rfl) ?_ ?_
        rotate_left
        · (intro wq; go_simp; try with_reducible rfl)
        simp only [pz]
        refine wpF_take 2 (v := ?_) rfl (by kernel_rfl) (by kernel_rfl) (by kernel_rfl) (fun _ _ _ h => h) hT0 (by rfl) ?_ ?_
        rotate_left
        · (intro wq; go_simp; try with_reducible rfl)
        simp only [pz]
        refine wpF_take 3 (v := .bool true) rfl (by kernel_rfl) (by kernel_rfl) (by kernel_rfl) (fun _ _ _ h => h) hT0 (by rfl) (by intro wq; go_simp; first | done | rfl) ?_
        simp only [pz]
        refine wpF_take 4 (v := ?_) rfl (by kernel_rfl) (by kernel_rfl) (by kernel_rfl) (fun _ _ _ h => h) hT0 (by rfl) ?_ ?_
        rotate_left
        · (intro wq; go_simp; try with_reducible rfl)
        simp only [pz]
        refine wpF_take 5 (v := ?_) rfl (by kernel_rfl) (by kernel_rfl) (by kernel_rfl) (fun _ _ _ h => h) hT0 (by rfl) ?_ ?_
        rotate_left
        · (intro wq; go_simp; try with_reducible rfl)
        simp only [pz]
        refine wpF_take 6 (v := ?_) rfl (by kernel_rfl) (by kernel_rfl) (by kernel_rfl) (fun _ _ _ h => h) hT0 (by rfl) ?_ ?_
        rotate_left
        · (intro wq; go_simp; try with_reducible rfl)
        simp only [pz]
        refine wpF_take 7 (v := .pointer (some ⟨b, off + i * 3, none⟩)) rfl (by kernel_rfl) (by kernel_rfl) (by kernel_rfl) (fun _ _ _ h => h) hT0 (by rfl) (by intro wq; go_simp) ?_
        simp only [pz]
        refine wpF_look 8 (v := .agg #[.int .i64 r.dev, .int .i64 r.ep, .int .i64 r.seq]) rfl rfl (by kernel_rfl) (by kernel_rfl) (by kernel_rfl) (by kernel_rfl) (fun _ _ _ h => h) hT0 (by rfl) (fun w hS => by have hS : Ext no wr w := hS; have q0 := hS.keeps y0 (fun h => h); have q1 := hS.keeps y1 (fun h => h); have q2 := hS.keeps y2 (fun h => h); go_simp) ?_
        simp only [pz]
        refine wpF_look 9 (v := .agg #[.int .i64 d.dev, .int .i64 d.ep, .int .i64 d.seq]) rfl rfl (by kernel_rfl) (by kernel_rfl) (by kernel_rfl) (by kernel_rfl) (fun _ _ _ h => h) hT0 (by rfl) (fun w hS => by have hS : Ext no wr w := hS; have q0 := hS.keeps v0 (fun h => h); have q1 := hS.keeps v1 (fun h => h); have q2 := hS.keeps v2 (fun h => h); go_simp) ?_
        simp only [pz]
        refine wpF_exec 10 rfl (by kernel_rfl) (by rfl) ?_
        intro K hK
        go_simp
        refine (less7_any _ r d).mono ?_
        rintro e w3 ⟨rfl, hx3⟩
        rw [hlx]
        have hT1 : ∀ k, looks [(8, fun z => Ext no wr z), (9, fun z => Ext no wr z)] k (w3) := looks_all ⟨(Ext.drew no wr).comp hx3, (Ext.drew no wr).comp hx3, trivial⟩
        refine hK _ _ (looks [(8, fun z => Ext no wr z), (9, fun z => Ext no wr z)]) ⟨.inr (.inl (by kernel_rfl)), .inr (.inl (by kernel_rfl)), trivial⟩ hT1 ?_
        clear hK K
        try simp only [pz]
        replace hx3 := (Ext.drew no wr).comp hx3
        refine wpF_take 11 (v := ?_) rfl (by kernel_rfl) (by kernel_rfl) (by kernel_rfl) (fun _ _ _ h => h) hT1 (by rfl) ?_ ?_
        rotate_left
        · (intro wq; go_simp; try with_reducible rfl)
        simp only [pz]
        refine wpF_done (by kernel_rfl) ?_ _
        clear y0 y1 y2 v0 v1 v2
        replace hW := hW.comp hx3
        replace hO := hO.ext (by simp) hx3 (fun h => h)
        replace hX := hX.ext (by simp) hx3 (fun h => h)
        clear hx3
        have hA0 : Ext no w (w3.alloc (.cells #[] 38)) := hW.comp (Ext.alloc no _ _)
        have hf : Rd (w3.alloc (.cells #[] 38)) (some ⟨b, off, none⟩) (rows DotR.cells (l.take i)) := by have q := (hr.no hA0).take (i * 3); rwa [rows_take kEntry] at q
        obtain ⟨B, hB⟩ : ∃ B, B = w3.heap.size := ⟨_, rfl⟩
        have hz : Own (w3.alloc (.cells #[] 38)) B (some ⟨w3.heap.size, 0, none⟩) 3 0 0 [] := by rw [hB]; exact Own.fresh w3 _ _ _ _ _ _ _ _ (Nat.le_refl _) (by simp) (Nat.le_refl _) (Nat.zero_le _) (by simp) (by simp) (.inl (Nat.le_refl _))
        have hcA : ∀ w, (Instr.sliceAt 25 (.slice (some ⟨b, off, none⟩) l.length lc) none (some (.int .i64 (i : Int))) none).run Tryz.prog w = .ok (.slice (some ⟨b, off, none⟩) i lc) w := fun w => run_cut_h TEntry w (some ⟨b, off, none⟩) _ lc .i64 i (by omega)
        have hB1 : gx < B := by have := hX.lt (by simp); omega
        have hB2 : w.heap.size ≤ B := by omega
        have hB3 : B ≤ w3.heap.size := by omega
        have hB4 : w3.heap.size ≤ B := by omega
        clear hB
        go_wp2_with (at_builtin; refine wpList_append TEntry rfl rfl rfl hz rfl hf (by rw [rows_length kEntry, List.length_take]; congr 1; omega) (oneEntry _) ?c1 ?c2 (by simp; omega) ?_)
        case c1 => unfold maxLen; omega
        case c2 => omega
        intro a1 c1 w5 hp1
        try rw [Nat.zero_add]
        have ho1 := hp1.own
        rw [Nat.zero_add, List.nil_append] at ho1
        have hxA : Ext no w3 w5 := (Ext.alloc no _ _).trans hp1.ext (fun k hk => by rintro ⟨ad, h, hb⟩; cases h; simp only at hb; omega)
        have hBs : B ≤ w5.heap.size := by have := hxA.size; omega
        clear hp1 hz hf hcA hB3 hB4 hA0
        replace hW := hW.comp hxA
        replace hO := hO.ext (by simp) hxA (fun h => h)
        replace hX := hX.ext (by simp) hxA (fun h => h)
        clear hxA
        have z0 := hX.cell 0 _ rfl
        have z1 := hX.cell 1 _ rfl
        have z2 := hX.cell 2 _ rfl
        have hX1 : Rd (w5.alloc (.cells #[.int .i64 d.dev, .int .i64 d.ep, .int .i64 d.seq] 38)) (some ⟨w5.heap.size, 0, none⟩) (DotR.cells d) := Rd.lit w5 #[.int .i64 d.dev, .int .i64 d.ep, .int .i64 d.seq] _ _
        go_wp2_with (at_builtin; refine wpList_append TEntry rfl rfl rfl (ho1.alloc _) rfl hX1 rfl (one1Entry d) ?c1 ?c2 ?c3 ?_)
        case c1 => unfold maxLen; omega
        case c2 => omega
        case c3 => first | omega | (simp; omega)
        intro a2 c2 w7 hp2
        have ho2 := hp2.own
        clear z0 z1 z2
        have hxB : Ext no w w7 := (hW.comp (Ext.alloc no _ _)).trans hp2.ext (fun k hk => by rintro ⟨ad, h, hb⟩; have := (ho1.base ad h).1; omega)
        have hzB : B ≤ w7.heap.size := Nat.le_trans hBs (Nat.le_trans (Ext.alloc no w5 (.cells #[.int .i64 d.dev, .int .i64 d.ep, .int .i64 d.seq] 38)).size hp2.ext.size)
        have hX7 := (hX.ext (by simp) (Ext.alloc no w5 (.cells #[.int .i64 d.dev, .int .i64 d.ep, .int .i64 d.seq] 38)) (fun h => h)).ext (by simp) hp2.ext (by rintro ⟨ad, h, hb⟩; have := (ho1.base ad h).1; omega)
        clear hp2 hX1 hX hO hW ho1
        have hrr := hr.no hxB
        have y0 : w7.cell? ⟨b, off + i * 3, none⟩ = some (.int .i64 r.dev) := rows_cell kEntry hrr hrm 0 _ rfl
        have y1 : w7.cell? ⟨b, off + i * 3 + 1, none⟩ = some (.int .i64 r.ep) := rows_cell kEntry hrr hrm 1 _ rfl
        have y2 : w7.cell? ⟨b, off + i * 3 + 2, none⟩ = some (.int .i64 r.seq) := rows_cell kEntry hrr hrm 2 _ rfl
        clear hrr
        have v0 := hX7.cell 0 _ rfl
        have v1 := hX7.cell 1 _ rfl
        have v2 := hX7.cell 2 _ rfl
        go_upto_region 6 with fail
        cases t3 : pairLt d.pair r.pair with
        | true =>
          have HR := Lib.hid (show E = splice l i (i) d by rw [HE.out]; unfold refPut refPutQ refPutP; rw [← HP.out, hrm]; simp only; rw [t3]; rfl)
          refine wp_region_F [5, 9] (looks [(5, fun z => Ext no w7 z), (9, fun z => Ext no w7 z)]) (by kernel_rfl) ?_
          have hT0 : ∀ k, looks [(5, fun z => Ext no w7 z), (9, fun z => Ext no w7 z)] k (w7.drew) := looks_all ⟨Ext.drew no w7, Ext.drew no w7, trivial⟩
          refine wpF_take 0 (v := ?_) rfl (by kernel_rfl) (by kernel_rfl) (by kernel_rfl) (fun _ _ _ h => h) hT0 (by rfl) ?_ ?_
          rotate_left
          · (intro wq; go_simp; try with_reducible rfl)
          simp only [pz]
          refine wpF_take 1 (v := ?_) rfl (by kernel_rfl) (by kernel_rfl) (by kernel_rfl) (fun _ _ _ h => h) hT0 (by rfl) ?_ ?_
          rotate_left
          · (intro wq; go_simp; try with_reducible rfl)
          simp only [pz]
          refine wpF_take 2 (v := ?_) rfl (by kernel_rfl) (by kernel_rfl) (by kernel_rfl) (fun _ _ _ h => h) hT0 (by rfl) ?_ ?_
          rotate_left
          · (intro wq; go_simp; try with_reducible rfl)
          simp only [pz]
          refine wpF_take 3 (v := .bool true) rfl (by kernel_rfl) (by kernel_rfl) (by kernel_rfl) (fun _ _ _ h => h) hT0 (by rfl) (by intro wq; go_simp; first | done | rfl) ?_
          simp only [pz]
          refine wpF_take 4 (v := ?_) rfl (by kernel_rfl) (by kernel_rfl) (by kernel_rfl) (fun _ _ _ h => h) hT0 (by rfl) ?_ ?_
          rotate_left
          · (intro wq; go_simp; try with_reducible rfl)
          simp only [pz]
          refine wpF_look 5 (v := .agg #[.int .i64 d.dev, .int .i64 d.ep, .int .i64 d.seq]) rfl rfl (by kernel_rfl) (by kernel_rfl) (by kernel_rfl) (by kernel_rfl) (fun _ _ _ h => h) hT0 (by rfl) (fun w hS => by have hS : Ext no w7 w := hS; have q0 := hS.keeps v0 (fun h => h); have q1 := hS.keeps v1 (fun h => h); have q2 := hS.keeps v2 (fun h => h); go_simp) ?_
          simp only [pz]
          refine wpF_take 6 (v := ?_) rfl (by kernel_rfl) (by kernel_rfl) (by kernel_rfl) (fun _ _ _ h => h) hT0 (by rfl) ?_ ?_
          rotate_left
          · (intro wq; go_simp; try with_reducible rfl)
          simp only [pz]
          refine wpF_take 7 (v := ?_) rfl (by kernel_rfl) (by kernel_rfl) (by kernel_rfl) (fun _ _ _ h => h) hT0 (by rfl) ?_ ?_
          rotate_left
          · (intro wq; go_simp; try with_reducible rfl)
          simp only [pz]
          refine wpF_take 8 (v := .pointer (some ⟨b, off + i * 3, none⟩)) rfl (by kernel_rfl) (by kernel_rfl) (by kernel_rfl) (fun _ _ _ h => h) hT0 (by rfl) (by intro wq; go_simp) ?_
          simp only [pz]
          refine wpF_look 9 (v := .agg #[.int .i64 r.dev, .int .i64 r.ep, .int .i64 r.seq]) rfl rfl (by kernel_rfl) (by kernel_rfl) (by kernel_rfl) (by kernel_rfl) (fun _ _ _ h => h) hT0 (by rfl) (fun w hS => by have hS : Ext no w7 w := hS; have q0 := hS.keeps y0 (fun h => h); have q1 := hS.keeps y1 (fun h => h); have q2 := hS.keeps y2 (fun h => h); go_simp) ?_
          simp only [pz]
          refine wpF_exec 10 rfl (by kernel_rfl) (by rfl) ?_
          intro K hK
          go_simp
          refine (less7_any _ d r).mono ?_
          rintro e w9 ⟨rfl, hx3⟩
          rw [t3]
          have hT1 : ∀ k, looks [(5, fun z => Ext no w7 z), (9, fun z => Ext no w7 z)] k (w9) := looks_all ⟨(Ext.drew no w7).comp hx3, (Ext.drew no w7).comp hx3, trivial⟩
          refine hK _ _ (looks [(5, fun z => Ext no w7 z), (9, fun z => Ext no w7 z)]) ⟨.inr (.inl (by kernel_rfl)), .inr (.inl (by kernel_rfl)), trivial⟩ hT1 ?_
          clear hK K
          try simp only [pz]
          replace hx3 := (Ext.drew no w7).comp hx3
          refine wpF_take 11 (v := ?_) rfl (by kernel_rfl) (by kernel_rfl) (by kernel_rfl) (fun _ _ _ h => h) hT1 (by rfl) ?_ ?_
          rotate_left
          · (intro wq; go_simp; try with_reducible rfl)
          simp only [pz]
          refine wpF_take 12 (v := ?_) rfl (by kernel_rfl) (by kernel_rfl) (by kernel_rfl) (fun _ _ _ h => h) hT1 (by rfl) ?_ ?_
          rotate_left
          · (intro wq; go_simp; try with_reducible rfl)
          simp only [pz]
          refine wpF_done (by kernel_rfl) ?_ _
          clear d1 hX7 y0 y1 y2 v0 v1 v2
          replace hxB := hxB.comp hx3
          replace ho2 := ho2.ext hx3 (fun _ _ h => h)
          replace hzB := Nat.le_trans hzB hx3.size
          clear hx3
          have hcC : ∀ w, (Instr.sliceAt 25 (.slice (some ⟨b, off, none⟩) l.length lc) (some (.int .i64 (i : Int))) none none).run Tryz.prog w = .ok (.slice (cutAt (some ⟨b, off, none⟩) lc (i) 3) (l.length - (i)) (lc - (i))) w := fun w => run_cut_l TEntry w (some ⟨b, off, none⟩) _ lc .i64 (i) (by omega)
          have hf2 : Rd w9 (cutAt (some ⟨b, off, none⟩) lc (i) 3) (rows DotR.cells (l.drop (i))) := by have q := (hr.no hxB).cutAt lc (i) 3 (fun e => by rw [rows_length kEntry]; exact Nat.mul_le_mul_right _ (by omega)); rwa [rows_drop kEntry] at q
          go_wp2_with (at_builtin; refine wpList_append TEntry rfl rfl rfl ho2 rfl hf2 (by rw [rows_length kEntry, List.length_drop]) (oneEntry _) ?c1 ?c2 ?c3 ?_)
          case c1 => unfold maxLen; omega
          case c2 => omega
          case c3 => omega
          intro a3 c3 w8 hp3
          have ho3 := hp3.own
          have hxC : Ext no w w8 := hxB.trans hp3.ext (fun k hk => by rintro ⟨ad, h, hb⟩; have := (ho2.base ad h).1; omega)
          clear hp3 hf2 hcC
          go_wp2_with fail
          go_ret
          refine ⟨a3, c3, ?_, ?_, hxC⟩
          · rw [HR.out, splice_length _ _ _ _ hPl (by omega)]; rfl
          · rw [HR.out, splice_length _ _ _ _ hPl (by omega)]; unfold splice; rw [rows_append, rows_append, rows_one]; exact ho3.mono hB2
        | false =>
          have HR := Lib.hid (show E = splice l i (i + 1) d by rw [HE.out]; unfold refPut refPutQ refPutP; rw [← HP.out, hrm]; simp only; rw [t3]; rfl)
          refine wp_region_F [5, 9] (looks [(5, fun z => Ext no w7 z), (9, fun z => Ext no w7 z)]) (by kernel_rfl) ?_
          have hT0 : ∀ k, looks [(5, fun z => Ext no w7 z), (9, fun z => Ext no w7 z)] k (w7.drew) := looks_all ⟨Ext.drew no w7, Ext.drew no w7, trivial⟩
          refine wpF_take 0 (v := ?_) rfl (by kernel_rfl) (by kernel_rfl) (by kernel_rfl) (fun _ _ _ h => h) hT0 (by rfl) ?_ ?_
          rotate_left
          · (intro wq; go_simp; try with_reducible rfl)
          simp only [pz]
          refine wpF_take 1 (v := ?_) rfl (by kernel_rfl) (by kernel_rfl) (by kernel_rfl) (fun _ _ _ h => h) hT0 (by rfl) ?_ ?_
          rotate_left
          · (intro wq; go_simp; try with_reducible rfl)
          simp only [pz]
          refine wpF_take 2 (v := ?_) rfl (by kernel_rfl) (by kernel_rfl) (by kernel_rfl) (fun _ _ _ h => h) hT0 (by rfl) ?_ ?_
          rotate_left
          · (intro wq; go_simp; try with_reducible rfl)
          simp only [pz]
          refine wpF_take 3 (v := .bool true) rfl (by kernel_rfl) (by kernel_rfl) (by kernel_rfl) (fun _ _ _ h => h) hT0 (by rfl) (by intro wq; go_simp; first | done | rfl) ?_
          simp only [pz]
          refine wpF_take 4 (v := ?_) rfl (by kernel_rfl) (by kernel_rfl) (by kernel_rfl) (fun _ _ _ h => h) hT0 (by rfl) ?_ ?_
          rotate_left
          · (intro wq; go_simp; try with_reducible rfl)
          simp only [pz]
          refine wpF_look 5 (v := .agg #[.int .i64 d.dev, .int .i64 d.ep, .int .i64 d.seq]) rfl rfl (by kernel_rfl) (by kernel_rfl) (by kernel_rfl) (by kernel_rfl) (fun _ _ _ h => h) hT0 (by rfl) (fun w hS => by have hS : Ext no w7 w := hS; have q0 := hS.keeps v0 (fun h => h); have q1 := hS.keeps v1 (fun h => h); have q2 := hS.keeps v2 (fun h => h); go_simp) ?_
          simp only [pz]
          refine wpF_take 6 (v := ?_) rfl (by kernel_rfl) (by kernel_rfl) (by kernel_rfl) (fun _ _ _ h => h) hT0 (by rfl) ?_ ?_
          rotate_left
          · (intro wq; go_simp; try with_reducible rfl)
          simp only [pz]
          refine wpF_take 7 (v := ?_) rfl (by kernel_rfl) (by kernel_rfl) (by kernel_rfl) (fun _ _ _ h => h) hT0 (by rfl) ?_ ?_
          rotate_left
          · (intro wq; go_simp; try with_reducible rfl)
          simp only [pz]
          refine wpF_take 8 (v := .pointer (some ⟨b, off + i * 3, none⟩)) rfl (by kernel_rfl) (by kernel_rfl) (by kernel_rfl) (fun _ _ _ h => h) hT0 (by rfl) (by intro wq; go_simp) ?_
          simp only [pz]
          refine wpF_look 9 (v := .agg #[.int .i64 r.dev, .int .i64 r.ep, .int .i64 r.seq]) rfl rfl (by kernel_rfl) (by kernel_rfl) (by kernel_rfl) (by kernel_rfl) (fun _ _ _ h => h) hT0 (by rfl) (fun w hS => by have hS : Ext no w7 w := hS; have q0 := hS.keeps y0 (fun h => h); have q1 := hS.keeps y1 (fun h => h); have q2 := hS.keeps y2 (fun h => h); go_simp) ?_
          simp only [pz]
          refine wpF_exec 10 rfl (by kernel_rfl) (by rfl) ?_
          intro K hK
          go_simp
          refine (less7_any _ d r).mono ?_
          rintro e w9 ⟨rfl, hx3⟩
          rw [t3]
          have hT1 : ∀ k, looks [(5, fun z => Ext no w7 z), (9, fun z => Ext no w7 z)] k (w9) := looks_all ⟨(Ext.drew no w7).comp hx3, (Ext.drew no w7).comp hx3, trivial⟩
          refine hK _ _ (looks [(5, fun z => Ext no w7 z), (9, fun z => Ext no w7 z)]) ⟨.inr (.inl (by kernel_rfl)), .inr (.inl (by kernel_rfl)), trivial⟩ hT1 ?_
          clear hK K
          try simp only [pz]
          replace hx3 := (Ext.drew no w7).comp hx3
          refine wpF_take 11 (v := ?_) rfl (by kernel_rfl) (by kernel_rfl) (by kernel_rfl) (fun _ _ _ h => h) hT1 (by rfl) ?_ ?_
          rotate_left
          · (intro wq; go_simp; try with_reducible rfl)
          simp only [pz]
          refine wpF_take 12 (v := ?_) rfl (by kernel_rfl) (by kernel_rfl) (by kernel_rfl) (fun _ _ _ h => h) hT1 (by rfl) ?_ ?_
          rotate_left
          · (intro wq; go_simp; try with_reducible rfl)
          simp only [pz]
          refine wpF_done (by kernel_rfl) ?_ _
          clear d1 hX7 y0 y1 y2 v0 v1 v2
          replace hxB := hxB.comp hx3
          replace ho2 := ho2.ext hx3 (fun _ _ h => h)
          replace hzB := Nat.le_trans hzB hx3.size
          clear hx3
          have hcC : ∀ w, (Instr.sliceAt 25 (.slice (some ⟨b, off, none⟩) l.length lc) (some (.int .i64 ((i : Int) + 1))) none none).run Tryz.prog w = .ok (.slice (cutAt (some ⟨b, off, none⟩) lc (i + 1) 3) (l.length - (i + 1)) (lc - (i + 1))) w := fun w => run_cut_l TEntry w (some ⟨b, off, none⟩) _ lc .i64 (i + 1) (by omega)
          have hf2 : Rd w9 (cutAt (some ⟨b, off, none⟩) lc (i + 1) 3) (rows DotR.cells (l.drop (i + 1))) := by have q := (hr.no hxB).cutAt lc (i + 1) 3 (fun e => by rw [rows_length kEntry]; exact Nat.mul_le_mul_right _ (by omega)); rwa [rows_drop kEntry] at q
          go_wp2_with (at_builtin; refine wpList_append TEntry rfl rfl rfl ho2 rfl hf2 (by rw [rows_length kEntry, List.length_drop]) (oneEntry _) ?c1 ?c2 ?c3 ?_)
          case c1 => unfold maxLen; omega
          case c2 => omega
          case c3 => omega
          intro a3 c3 w8 hp3
          have ho3 := hp3.own
          have hxC : Ext no w w8 := hxB.trans hp3.ext (fun k hk => by rintro ⟨ad, h, hb⟩; have := (ho2.base ad h).1; omega)
          clear hp3 hf2 hcC
          go_wp2_with fail
          go_ret
          refine ⟨a3, c3, ?_, ?_, hxC⟩
          · rw [HR.out, splice_length _ _ _ _ hPl (by omega)]; rfl
          · rw [HR.out, splice_length _ _ _ _ hPl (by omega)]; unfold splice; rw [rows_append, rows_append, rows_one]; exact ho3.mono hB2
      · have d1 : decide (i < l.length) = false := decF hPn
        have hiE : l[i]? = none := List.getElem?_eq_none (by omega)
        have HR := Lib.hid (show E = splice l i (i) d by rw [HE.out]; unfold refPut refPutQ refPutP; rw [← HP.out, hiE])
        clear hiE
        go_upto_region 2 with fail
        refine wp_region_F [] (looks []) (by kernel_rfl) ?_
        have hT0 : ∀ k, looks [] k (wr.drew) := looks_all trivial
        refine wpF_take 0 (v := ?_) rfl (by kernel_rfl) (by kernel_rfl) (by kernel_rfl) (fun _ _ _ h => h) hT0 (by rfl) ?_ ?_
        rotate_left
        · (intro wq; go_simp; try with_reducible rfl)
        simp only [pz]
        refine wpF_take 1 (v := ?_) rfl (by kernel_rfl) (by kernel_rfl) (by kernel_rfl) (fun _ _ _ h => h) hT0 (by rfl) ?_ ?_
        rotate_left
        · (intro wq; go_simp; try with_reducible rfl)
        simp only [pz]
        refine wpF_take 2 (v := ?_) rfl (by kernel_rfl) (by kernel_rfl) (by kernel_rfl) (fun _ _ _ h => h) hT0 (by rfl) ?_ ?_
        rotate_left
        · (intro wq; go_simp; try with_reducible rfl)
        simp only [pz]
        refine wpF_take 3 (v := .bool false) rfl (by kernel_rfl) (by kernel_rfl) (by kernel_rfl) (fun _ _ _ h => h) hT0 (by rfl) (by intro wq; go_simp; first | done | rfl) ?_
        simp only [pz]
        refine wpF_take 4 (v := ?_) rfl (by kernel_rfl) (by kernel_rfl) (by kernel_rfl) (fun _ _ _ h => h) hT0 (by rfl) ?_ ?_
        rotate_left
        · (intro wq; go_simp; try with_reducible rfl)
        simp only [pz]
        refine wpF_skip 5 rfl (by kernel_rfl) (by kernel_rfl) (by kernel_rfl) (fun _ _ _ h => h) hT0 (by rfl) ?_
        simp only [pz]
        refine wpF_skip 6 rfl (by kernel_rfl) (by kernel_rfl) (by kernel_rfl) (fun _ _ _ h => h) hT0 (by rfl) ?_
        simp only [pz]
        refine wpF_skip 7 rfl (by kernel_rfl) (by kernel_rfl) (by kernel_rfl) (fun _ _ _ h => h) hT0 (by rfl) ?_
        simp only [pz]
        refine wpF_skip 8 rfl (by kernel_rfl) (by kernel_rfl) (by kernel_rfl) (fun _ _ _ h => h) hT0 (by rfl) ?_
        simp only [pz]
        refine wpF_skip 9 rfl (by kernel_rfl) (by kernel_rfl) (by kernel_rfl) (fun _ _ _ h => h) hT0 (by rfl) ?_
        simp only [pz]
        refine wpF_skip 10 rfl (by kernel_rfl) (by kernel_rfl) (by kernel_rfl) (fun _ _ _ h => h) hT0 (by rfl) ?_
        simp only [pz]
        refine wpF_take 11 (v := ?_) rfl (by kernel_rfl) (by kernel_rfl) (by kernel_rfl) (fun _ _ _ h => h) hT0 (by rfl) ?_ ?_
        rotate_left
        · (intro wq; go_simp; try with_reducible rfl)
        simp only [pz]
        refine wpF_done (by kernel_rfl) ?_ _
        have hx3 := Ext.drew no wr
        generalize wr.drew = w3 at *
        clear v0 v1 v2
        replace hW := hW.comp hx3
        replace hO := hO.ext (by simp) hx3 (fun h => h)
        replace hX := hX.ext (by simp) hx3 (fun h => h)
        clear hx3
        have hA0 : Ext no w (w3.alloc (.cells #[] 38)) := hW.comp (Ext.alloc no _ _)
        have hf : Rd (w3.alloc (.cells #[] 38)) la (rows DotR.cells (l.take i)) := by have q := (hr.no hA0).take (i * 3); rwa [rows_take kEntry] at q
        obtain ⟨B, hB⟩ : ∃ B, B = w3.heap.size := ⟨_, rfl⟩
        have hz : Own (w3.alloc (.cells #[] 38)) B (some ⟨w3.heap.size, 0, none⟩) 3 0 0 [] := by rw [hB]; exact Own.fresh w3 _ _ _ _ _ _ _ _ (Nat.le_refl _) (by simp) (Nat.le_refl _) (Nat.zero_le _) (by simp) (by simp) (.inl (Nat.le_refl _))
        have hcA : ∀ w, (Instr.sliceAt 25 (.slice la l.length lc) none (some (.int .i64 (i : Int))) none).run Tryz.prog w = .ok (.slice la i lc) w := fun w => run_cut_h TEntry w la _ lc .i64 i (by omega)
        have hB1 : gx < B := by have := hX.lt (by simp); omega
        have hB2 : w.heap.size ≤ B := by omega
        have hB3 : B ≤ w3.heap.size := by omega
        have hB4 : w3.heap.size ≤ B := by omega
        clear hB
        go_wp2_with (at_builtin; refine wpList_append TEntry rfl rfl rfl hz rfl hf (by rw [rows_length kEntry, List.length_take]; congr 1; omega) (oneEntry _) ?c1 ?c2 (by simp; omega) ?_)
        case c1 => unfold maxLen; omega
        case c2 => omega
        intro a1 c1 w5 hp1
        try rw [Nat.zero_add]
        have ho1 := hp1.own
        rw [Nat.zero_add, List.nil_append] at ho1
        have hxA : Ext no w3 w5 := (Ext.alloc no _ _).trans hp1.ext (fun k hk => by rintro ⟨ad, h, hb⟩; cases h; simp only at hb; omega)
        have hBs : B ≤ w5.heap.size := by have := hxA.size; omega
        clear hp1 hz hf hcA hB3 hB4 hA0
        replace hW := hW.comp hxA
        replace hO := hO.ext (by simp) hxA (fun h => h)
        replace hX := hX.ext (by simp) hxA (fun h => h)
        clear hxA
        have z0 := hX.cell 0 _ rfl
        have z1 := hX.cell 1 _ rfl
        have z2 := hX.cell 2 _ rfl
        have hX1 : Rd (w5.alloc (.cells #[.int .i64 d.dev, .int .i64 d.ep, .int .i64 d.seq] 38)) (some ⟨w5.heap.size, 0, none⟩) (DotR.cells d) := Rd.lit w5 #[.int .i64 d.dev, .int .i64 d.ep, .int .i64 d.seq] _ _
        go_wp2_with (at_builtin; refine wpList_append TEntry rfl rfl rfl (ho1.alloc _) rfl hX1 rfl (one1Entry d) ?c1 ?c2 ?c3 ?_)
        case c1 => unfold maxLen; omega
        case c2 => omega
        case c3 => first | omega | (simp; omega)
        intro a2 c2 w7 hp2
        have ho2 := hp2.own
        clear z0 z1 z2
        have hxB : Ext no w w7 := (hW.comp (Ext.alloc no _ _)).trans hp2.ext (fun k hk => by rintro ⟨ad, h, hb⟩; have := (ho1.base ad h).1; omega)
        have hzB : B ≤ w7.heap.size := Nat.le_trans hBs (Nat.le_trans (Ext.alloc no w5 (.cells #[.int .i64 d.dev, .int .i64 d.ep, .int .i64 d.seq] 38)).size hp2.ext.size)
        have hX7 := (hX.ext (by simp) (Ext.alloc no w5 (.cells #[.int .i64 d.dev, .int .i64 d.ep, .int .i64 d.seq] 38)) (fun h => h)).ext (by simp) hp2.ext (by rintro ⟨ad, h, hb⟩; have := (ho1.base ad h).1; omega)
        clear hp2 hX1 hX hO hW ho1
        go_upto_region 6 with fail
        refine wp_region_F [] (looks []) (by kernel_rfl) ?_
        have hT0 : ∀ k, looks [] k (w7.drew) := looks_all trivial
        refine wpF_take 0 (v := ?_) rfl (by kernel_rfl) (by kernel_rfl) (by kernel_rfl) (fun _ _ _ h => h) hT0 (by rfl) ?_ ?_
        rotate_left
        · (intro wq; go_simp; try with_reducible rfl)
        simp only [pz]
        refine wpF_take 1 (v := ?_) rfl (by kernel_rfl) (by kernel_rfl) (by kernel_rfl) (fun _ _ _ h => h) hT0 (by rfl) ?_ ?_
        rotate_left
        · (intro wq; go_simp; try with_reducible rfl)
        simp only [pz]
        refine wpF_take 2 (v := ?_) rfl (by kernel_rfl) (by kernel_rfl) (by kernel_rfl) (fun _ _ _ h => h) hT0 (by rfl) ?_ ?_
        rotate_left
        · (intro wq; go_simp; try with_reducible rfl)
        simp only [pz]
        refine wpF_take 3 (v := .bool false) rfl (by kernel_rfl) (by kernel_rfl) (by kernel_rfl) (fun _ _ _ h => h) hT0 (by rfl) (by intro wq; go_simp; first | done | rfl) ?_
        simp only [pz]
        refine wpF_take 4 (v := ?_) rfl (by kernel_rfl) (by kernel_rfl) (by kernel_rfl) (fun _ _ _ h => h) hT0 (by rfl) ?_ ?_
        rotate_left
        · (intro wq; go_simp; try with_reducible rfl)
        simp only [pz]
        refine wpF_skip 5 rfl (by kernel_rfl) (by kernel_rfl) (by kernel_rfl) (fun _ _ _ h => h) hT0 (by rfl) ?_
        simp only [pz]
        refine wpF_skip 6 rfl (by kernel_rfl) (by kernel_rfl) (by kernel_rfl) (fun _ _ _ h => h) hT0 (by rfl) ?_
        simp only [pz]
        refine wpF_skip 7 rfl (by kernel_rfl) (by kernel_rfl) (by kernel_rfl) (fun _ _ _ h => h) hT0 (by rfl) ?_
        simp only [pz]
        refine wpF_skip 8 rfl (by kernel_rfl) (by kernel_rfl) (by kernel_rfl) (fun _ _ _ h => h) hT0 (by rfl) ?_
        simp only [pz]
        refine wpF_skip 9 rfl (by kernel_rfl) (by kernel_rfl) (by kernel_rfl) (fun _ _ _ h => h) hT0 (by rfl) ?_
        simp only [pz]
        refine wpF_skip 10 rfl (by kernel_rfl) (by kernel_rfl) (by kernel_rfl) (fun _ _ _ h => h) hT0 (by rfl) ?_
        simp only [pz]
        refine wpF_skip 11 rfl (by kernel_rfl) (by kernel_rfl) (by kernel_rfl) (fun _ _ _ h => h) hT0 (by rfl) ?_
        simp only [pz]
        refine wpF_take 12 (v := ?_) rfl (by kernel_rfl) (by kernel_rfl) (by kernel_rfl) (fun _ _ _ h => h) hT0 (by rfl) ?_ ?_
        rotate_left
        · (intro wq; go_simp; try with_reducible rfl)
        simp only [pz]
        refine wpF_done (by kernel_rfl) ?_ _
        have hx3 := Ext.drew no w7
        generalize w7.drew = w9 at *
        clear d1 hX7
        replace hxB := hxB.comp hx3
        replace ho2 := ho2.ext hx3 (fun _ _ h => h)
        replace hzB := Nat.le_trans hzB hx3.size
        clear hx3
        have hcC : ∀ w, (Instr.sliceAt 25 (.slice la l.length lc) (some (.int .i64 (i : Int))) none none).run Tryz.prog w = .ok (.slice (cutAt la lc (i) 3) (l.length - (i)) (lc - (i))) w := fun w => run_cut_l TEntry w la _ lc .i64 (i) (by omega)
        have hf2 : Rd w9 (cutAt la lc (i) 3) (rows DotR.cells (l.drop (i))) := by have q := (hr.no hxB).cutAt lc (i) 3 (fun e => by rw [rows_length kEntry]; exact Nat.mul_le_mul_right _ (by omega)); rwa [rows_drop kEntry] at q
        go_wp2_with (at_builtin; refine wpList_append TEntry rfl rfl rfl ho2 rfl hf2 (by rw [rows_length kEntry, List.length_drop]) (oneEntry _) ?c1 ?c2 ?c3 ?_)
        case c1 => unfold maxLen; omega
        case c2 => omega
        case c3 => omega
        intro a3 c3 w8 hp3
        have ho3 := hp3.own
        have hxC : Ext no w w8 := hxB.trans hp3.ext (fun k hk => by rintro ⟨ad, h, hb⟩; have := (ho2.base ad h).1; omega)
        clear hp3 hf2 hcC
        go_wp2_with fail
        go_ret
        refine ⟨a3, c3, ?_, ?_, hxC⟩
        · rw [HR.out, splice_length _ _ _ _ hPl (by omega)]; rfl
        · rw [HR.out, splice_length _ _ _ _ hPl (by omega)]; unfold splice; rw [rows_append, rows_append, rows_one]; exact ho3.mono hB2
set_option maxRecDepth 100000 in
set_option maxHeartbeats 8000000 in
theorem refstep_any (w : World) (va : Option Addr) (vc : Nat) (v : List DotR) (d : DotR) (hr : Rd w va (rows DotR.cells v)) (hl : v.length ≤ 1099511627775) (hlc : v.length ≤ vc) :
    Calls Tryz.prog 29 #[.slice va v.length vc, .agg #[.int .i64 d.dev, .int .i64 d.ep, .int .i64 d.seq]] w fun e w' => ∃ a' n' c', e = .returned (.tuple #[.slice a' n' c', .int .i64 (stepErr v d)]) ∧ (stepErr v d = 0 → n' = (refPut v d).length ∧ Own w' w.heap.size a' 3 n' c' (rows DotR.cells (refPut v d))) ∧ Ext no w w' := by
  obtain ⟨S, hS⟩ : ∃ S, S = stepErr v d := ⟨_, rfl⟩
  rw [← hS]
  have HS := Lib.hid hS
  clear hS
  go_enter Tryz.func29, Tryz.ntmps29
  go_upto_region 1 with fail
  have hb := Blk.lit w #[.int .i64 d.dev, .int .i64 d.ep, .int .i64 d.seq] 39
  have hx1 := Ext.alloc no w (.cells #[.int .i64 d.dev, .int .i64 d.ep, .int .i64 d.seq] 39)
  generalize w.alloc (.cells #[.int .i64 d.dev, .int .i64 d.ep, .int .i64 d.seq] 39) = w1 at *
  have q0 := hb.cell 0 _ rfl
  have q1 := hb.cell 1 _ rfl
  have q2 := hb.cell 2 _ rfl
  have hr1 := hr.ext hx1 (fun _ _ h => h)
  by_cases b1 : d.dev < 0
  · have t1 : decide (d.dev < 0) = true := decT b1
    have Hs := Lib.hid (show S = 1 by rw [HS.out]; unfold stepErr; rw [if_pos (.inl b1)])
    clear b1
    go_wp2_with fail
    go_ret2
    exact ⟨none, 0, 0, by rw [Hs.out]; rfl, (fun h => by rw [Hs.out] at h; cases h), hx1⟩
  have t1 : decide (d.dev < 0) = false := decF b1
  by_cases b2 : d.ep < 0
  · have t2 : decide (d.ep < 0) = true := decT b2
    have Hs := Lib.hid (show S = 1 by rw [HS.out]; unfold stepErr; rw [if_pos (.inr (.inl b2))])
    clear b1 b2
    go_wp2_with fail
    go_ret2
    exact ⟨none, 0, 0, by rw [Hs.out]; rfl, (fun h => by rw [Hs.out] at h; cases h), hx1⟩
  have t2 : decide (d.ep < 0) = false := decF b2
  by_cases b3 : d.seq < 1
  · have t3 : decide (d.seq < 1) = true := decT b3
    have Hs := Lib.hid (show S = 1 by rw [HS.out]; unfold stepErr; rw [if_pos (.inr (.inr b3))])
    clear b1 b2 b3
    go_wp2_with fail
    go_ret2
    exact ⟨none, 0, 0, by rw [Hs.out]; rfl, (fun h => by rw [Hs.out] at h; cases h), hx1⟩
  have t3 : decide (d.seq < 1) = false := decF b3
  go_upto_region 3 with fail
  go_wp2_with fail
  refine (refhas_any w1 va vc v d hr1 (by omega)).mono ?_
  rintro e w2 ⟨rfl, hx2⟩
  have hxx := hx1.comp hx2
  have hr2 := hr1.ext hx2 (fun _ _ h => h)
  have hb2 := hb.ext (by simp) hx2 (fun h => h)
  clear q0 q1 q2
  cases hh : refhasB v d with
  | true =>
    have h2 : d.seq ≤ Go.Esc.seen v d.dev d.ep := (of_decide_eq_true hh).2
    have Hs := Lib.hid (show S = 7 by rw [HS.out]; unfold stepErr; rw [if_neg (by omega), if_pos h2])
    clear b1 b2 b3 h2 hh
    go_wp2_with fail
    go_ret2
    exact ⟨none, 0, 0, by rw [Hs.out]; rfl, (fun h => by rw [Hs.out] at h; cases h), hxx⟩
  | false =>
    have h2 : ¬ d.seq ≤ Go.Esc.seen v d.dev d.ep := fun h => of_decide_eq_false hh ⟨by omega, h⟩
    have Hs := Lib.hid (show S = 0 by rw [HS.out]; unfold stepErr; rw [if_neg (by omega), if_neg h2])
    clear b1 b2 b3 h2 hh t1 t2 t3
    have q0 := hb2.cell 0 _ rfl
    have q1 := hb2.cell 1 _ rfl
    have q2 := hb2.cell 2 _ rfl
    go_wp2_with fail
    refine (refput_any w2 va v vc d hr2 hl hlc).mono ?_
    rintro e w3 ⟨a', c', rfl, hown, hx3⟩
    go_wp2_with fail
    go_ret2
    exact ⟨a', _, c', by rw [Hs.out]; rfl, fun _ => ⟨rfl, hown.mono hxx.size⟩, hxx.comp hx3⟩
end Go.Proofs.YtejmmkjpncpedaaGreat
