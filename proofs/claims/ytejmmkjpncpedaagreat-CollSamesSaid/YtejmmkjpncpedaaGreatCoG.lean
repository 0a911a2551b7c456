/- Walks of the package slices, for elements: IndexFunc, DeleteFunc. -/
import Derived.Test.YtejmmkjpncpedaaGreatCoE
import Derived.Test.YtejmmkjpncpedaaGreatRowC
namespace Go.Proofs.YtejmmkjpncpedaaGreat
open Go.RowKit Go.Esc
set_option linter.unusedVariables false
set_option linter.unusedSimpArgs false
set_option maxRecDepth 100000 in
set_option maxHeartbeats 1000000 in
theorem indexFunc_any (w : World) (a : Option Addr) (c : Nat) (l : List ElemR) (fn qb qo : Nat) (p : ElemR → Bool) (hr : Rd w a (rows ElemR.cells l)) (hl : l.length ≤ 1099511627776)
    (he : ∀ (args : Array Value) (w : World), (callFunc fn args).run Tryz.prog w = .ok (.enter fn args) w)
    (hf : ∀ (w' : World) (x : ElemR), x ∈ l → Ext no w w' → Calls Tryz.prog fn #[.agg #[.string (str x.key), .string (str x.text), .int .i64 x.ver, .int .i64 x.dot.dev, .int .i64 x.dot.ep, .int .i64 x.dot.seq], .pointer (some ⟨qb, qo, none⟩)] w' fun e w'' => e = .returned (.bool (p x)) ∧ Ext no w' w'')
    (n : Nat) (hn : n ≤ l.length) (hgo : ∀ j x, l[j]? = some x → j < n → p x = false) (hst : ∀ x, l[n]? = some x → p x = true) :
    Calls Tryz.prog 85 #[.slice a l.length c, .func (.func fn) #[] #[.pointer (some ⟨qb, qo, none⟩)]] w fun e w' => e = .returned (.int .i64 (if n < l.length then (n : Int) else -1)) ∧ Ext no w w' := by
  have hk : ∀ x, (ElemR.cells x).length = 6 := fun _ => rfl
  go_enter Tryz.func85, Tryz.ntmps85
  go_wp2_with fail
  go_loopw [8] (fun s8 wr => ∃ i : Nat, i ≤ n ∧ s8 = .int .i64 i ∧ Ext no w wr) (fun s8 _ => n - (intOf s8).toNat)
  case atStart => exact ⟨0, by omega, rfl, Ext.refl _ _⟩
  case round =>
    obtain ⟨i, hi, rfl, hx⟩ := hrel
    by_cases hil : i < l.length
    · have d1 : decide (i < l.length) = true := decT hil
      obtain ⟨x, hxm⟩ : ∃ x, l[i]? = some x := ⟨_, List.getElem?_eq_getElem (by omega)⟩
      obtain ⟨b, off, rfl, hlt⟩ := rows_shape hk (by omega) hr (by omega)
      have q := rows_cell hk (hr.ext hx (fun _ _ h => h)) hxm
      have q0 : wr.cell? ⟨b, off + i * 6, none⟩ = some (.string (str x.key)) := q 0 _ rfl
      have q1 : wr.cell? ⟨b, off + i * 6 + 1, none⟩ = some (.string (str x.text)) := q 1 _ rfl
      have q2 : wr.cell? ⟨b, off + i * 6 + 2, none⟩ = some (.int .i64 x.ver) := q 2 _ rfl
      have q3 : wr.cell? ⟨b, off + i * 6 + 3, none⟩ = some (.int .i64 x.dot.dev) := q 3 _ rfl
      have q4 : wr.cell? ⟨b, off + i * 6 + 4, none⟩ = some (.int .i64 x.dot.ep) := q 4 _ rfl
      have q5 : wr.cell? ⟨b, off + i * 6 + 5, none⟩ = some (.int .i64 x.dot.seq) := q 5 _ rfl
      clear q
      have hle := hgo i x hxm
      have hsx := hst x
      by_cases hin : i < n
      · have e := Lib.hid (hle hin)
        clear hle hsx
        go_wp2_with fail
        refine (hf wr x (List.mem_of_getElem? hxm) hx).mono ?_
        rintro e w1 ⟨rfl, hx1⟩
        rw [e.out]
        go_wp2_with fail
        go_roundw
        case rel => exact ⟨i + 1, by omega, by go_num, hx.comp hx1⟩
        case measure => simp [intOf]; omega
      · obtain rfl : n = i := by omega
        have e := Lib.hid (hsx hxm)
        have Hr := Lib.hid (show (if n < l.length then (n : Int) else -1) = n from if_pos hil)
        clear hle hsx
        go_wp2_with fail
        refine (hf wr x (List.mem_of_getElem? hxm) hx).mono ?_
        rintro e w1 ⟨rfl, hx1⟩
        rw [e.out]
        go_wp2_with fail
        go_ret
        exact ⟨by first | rfl | (rw [Hr.out]; rfl), hx.comp hx1⟩
    · obtain rfl : n = i := by omega
      have d1 : decide (n < l.length) = false := decF hil
      have Hr := Lib.hid (show (if n < l.length then (n : Int) else -1) = -1 from if_neg hil)
      go_wp2_with fail
      go_ret
      exact ⟨by first | rfl | (rw [Hr.out]; rfl), hx⟩
theorem tw_imp {α : Type} {p : α → Bool} {x : α} : ∀ {l : List α}, x ∈ l.takeWhile p → p x = true
  | [], h => by cases h
  | y :: l, h => by
    rw [List.takeWhile_cons] at h
    split at h
    · rcases List.mem_cons.1 h with rfl | h
      · assumption
      · exact tw_imp h
    · cases h
theorem take_none {α : Type} (l : List α) (p : α → Bool) (n : Nat) (h : ∀ j x, l[j]? = some x → j < n → p x = false) : (l.take n).filter (fun x => !p x) = l.take n := by
  rw [List.filter_eq_self]
  intro x hx
  obtain ⟨j, hj⟩ := List.getElem?_of_mem hx
  rw [List.getElem?_take] at hj
  split at hj
  · rw [h j x hj (by assumption)]; rfl
  · cases hj
set_option maxRecDepth 100000 in
set_option maxHeartbeats 2000000 in
theorem deleteFunc_any (w : World) (B : Nat) (sa : Option Addr) (c : Nat) (l : List ElemR) (fn qb qo : Nat) (p : ElemR → Bool) (hB : B ≤ w.heap.size) (ho : Own w B sa 6 l.length c (rows ElemR.cells l)) (hl : l.length ≤ 1099511627776)
    (he : ∀ (args : Array Value) (w : World), (callFunc fn args).run Tryz.prog w = .ok (.enter fn args) w)
    (hf : ∀ (w' : World) (x : ElemR), x ∈ l → Ext (blk sa) w w' → Calls Tryz.prog fn #[.agg #[.string (str x.key), .string (str x.text), .int .i64 x.ver, .int .i64 x.dot.dev, .int .i64 x.dot.ep, .int .i64 x.dot.seq], .pointer (some ⟨qb, qo, none⟩)] w' fun e w'' => e = .returned (.bool (p x)) ∧ Ext no w' w'') :
    Calls Tryz.prog 59 #[.slice sa l.length c, .func (.func fn) #[] #[.pointer (some ⟨qb, qo, none⟩)]] w fun e w' => e = .returned (.slice sa (l.filter (fun x => !p x)).length c) ∧ Own w' B sa 6 (l.filter (fun x => !p x)).length c (rows ElemR.cells (l.filter (fun x => !p x))) ∧ Ext (blk sa) w w' := by
  have hk : ∀ x, (ElemR.cells x).length = 6 := fun _ => rfl
  have no2 : ∀ {w w' : World}, Ext no w w' → Ext (blk sa) w w' := fun h => h.mono (fun _ _ h => absurd h (fun h => h))
  obtain ⟨n, hn0⟩ : ∃ n, n = (l.takeWhile (fun x => !p x)).length := ⟨_, rfl⟩
  have hn : n ≤ l.length := by rw [hn0]; exact (List.takeWhile_sublist _).length_le
  have hgo : ∀ j x, l[j]? = some x → j < n → p x = false := fun j x hj hjn => by
    have h1 : (l.takeWhile (fun x => !p x))[j]? = some x := by
      have := List.takeWhile_append_dropWhile (p := fun x => !p x) (l := l)
      rw [← this, List.getElem?_append_left (by omega)] at hj
      exact hj
    have := tw_imp (List.mem_of_getElem? h1)
    simpa using this
  have hst : ∀ x, l[n]? = some x → p x = true := fun x hx => by
    have e := List.takeWhile_append_dropWhile (p := fun x => !p x) (l := l)
    rw [← e, List.getElem?_append_right (by omega), hn0, Nat.sub_self] at hx
    have := List.head?_dropWhile_not (fun x => !p x) l
    rw [List.head?_eq_getElem?, hx] at this
    simpa using this
  clear hn0
  have hcm := ho.cm
  have hnc := ho.nc
  unfold maxLen at hcm
  by_cases hnl : n < l.length
  · have Hi := Lib.hid (show (if n < l.length then (n : Int) else -1) = n from if_pos hnl)
    have hci : ((n : Int) == -1) = false := by rw [beq_eq_false_iff_ne]; omega
    obtain ⟨b, off, rfl⟩ := ho.lits (by omega)
    have hst1 := take_none l p n hgo
    obtain ⟨x0, hx0⟩ : ∃ x, l[n]? = some x := ⟨_, List.getElem?_eq_getElem hnl⟩
    have hst2 := filter_take_succ l (fun x => !p x) n x0 hx0
    rw [hst x0 hx0, hst1] at hst2
    simp only [Bool.not_true, Bool.false_eq_true, if_false, List.append_nil] at hst2
    have H2 := Lib.hid hst2
    clear hst1 hst2
    go_enter Tryz.func59, Tryz.ntmps59
    go_wp2_with fail
    refine (indexFunc_any w _ c l fn qb qo p ho.rd hl he (fun w' x hm hx => hf w' x hm (no2 hx)) n hn hgo hst).mono ?_
    rintro e w0 ⟨rfl, hx0⟩
    rw [Hi.out]
    have hown0 := ho.ext hx0 (fun _ _ h => h)
    go_wp2_with fail
    go_loopw [5, 6] (fun s5 s6 wr => ∃ (i j : Nat) (A : List ElemR), i < j ∧ j ≤ l.length ∧ s5 = .int .i64 i ∧ s6 = .int .i64 j ∧ A.length = l.length ∧ A.take i = (l.take j).filter (fun x => !p x) ∧ A.drop j = l.drop j ∧ Own wr B (some ⟨b, off, none⟩) 6 l.length c (rows ElemR.cells A) ∧ Ext (blk (some ⟨b, off, none⟩)) w wr) (fun _ s6 _ => l.length - (intOf s6).toNat)
    case atStart => exact ⟨n, n + 1, l, by omega, by omega, rfl, by go_num, rfl, H2.out.symm, rfl, hown0, no2 hx0⟩
    case round =>
      obtain ⟨i, j, A, hij, hjl, rfl, rfl, hAl, hAt, hAd, hown, hx⟩ := hrel
      have HAt := Lib.hid hAt
      have HAd := Lib.hid hAd
      have HAl := Lib.hid hAl
      clear hAt hAd
      by_cases hjn : j < l.length
      · have d1 : decide (j < l.length) = true := decT hjn
        obtain ⟨x, hxm⟩ : ∃ x, l[j]? = some x := ⟨_, List.getElem?_eq_getElem (by omega)⟩
        have hxA : A[j]? = some x := by
          have e1 : (A.drop j)[0]? = (l.drop j)[0]? := by rw [HAd.out]
          rw [List.getElem?_drop, List.getElem?_drop, Nat.add_zero] at e1
          rw [e1, hxm]
        have q := rows_cell hk hown.rd hxA
        have q0 : wr.cell? ⟨b, off + j * 6, none⟩ = some (.string (str x.key)) := q 0 _ rfl
        have q1 : wr.cell? ⟨b, off + j * 6 + 1, none⟩ = some (.string (str x.text)) := q 1 _ rfl
        have q2 : wr.cell? ⟨b, off + j * 6 + 2, none⟩ = some (.int .i64 x.ver) := q 2 _ rfl
        have q3 : wr.cell? ⟨b, off + j * 6 + 3, none⟩ = some (.int .i64 x.dot.dev) := q 3 _ rfl
        have q4 : wr.cell? ⟨b, off + j * 6 + 4, none⟩ = some (.int .i64 x.dot.ep) := q 4 _ rfl
        have q5 : wr.cell? ⟨b, off + j * 6 + 5, none⟩ = some (.int .i64 x.dot.seq) := q 5 _ rfl
        have hsx := filter_take_succ l (fun x => !p x) j x hxm
        have Hsx := Lib.hid hsx
        have hlti := (hown.base _ rfl).2.1
        clear q hsx hAl
        go_wp2_with fail
        have hb := Blk.lit wr #[.string (str x.key), .string (str x.text), .int .i64 x.ver, .int .i64 x.dot.dev, .int .i64 x.dot.ep, .int .i64 x.dot.seq] 61
        have hxa := Ext.alloc no wr (.cells #[.string (str x.key), .string (str x.text), .int .i64 x.ver, .int .i64 x.dot.dev, .int .i64 x.dot.ep, .int .i64 x.dot.seq] 61)
        refine (hf _ x (List.mem_of_getElem? hxm) (hx.comp (no2 hxa))).mono ?_
        rintro e w1 ⟨rfl, hx1⟩
        have hbx := hb.ext (by simp) hx1 (fun h => h)
        have hxn := hxa.comp hx1
        have hown1 := hown.ext hxn (fun _ _ h => h)
        clear q0 q1 q2 q3 q4 q5
        cases hp : p x with
        | true =>
          go_wp2_with fail
          go_roundw
          case rel => exact ⟨i, j + 1, A, by omega, by omega, rfl, by go_num, HAl.out, by rw [HAt.out, Hsx.out, hp]; simp, by rw [← List.drop_drop, HAd.out, List.drop_drop], hown1, hx.comp (no2 hxn)⟩
          case measure => simp [intOf]; omega
        | false =>
          obtain ⟨y, hyA⟩ : ∃ y, A[i]? = some y := ⟨_, List.getElem?_eq_getElem (by have := HAl.out; omega)⟩
          have q := rows_cell hk hown1.rd hyA
          have r0 : w1.cell? ⟨b, off + i * 6, none⟩ = some (.string (str y.key)) := q 0 _ rfl
          have r1 : w1.cell? ⟨b, off + i * 6 + 1, none⟩ = some (.string (str y.text)) := q 1 _ rfl
          have r2 : w1.cell? ⟨b, off + i * 6 + 2, none⟩ = some (.int .i64 y.ver) := q 2 _ rfl
          have r3 : w1.cell? ⟨b, off + i * 6 + 3, none⟩ = some (.int .i64 y.dot.dev) := q 3 _ rfl
          have r4 : w1.cell? ⟨b, off + i * 6 + 4, none⟩ = some (.int .i64 y.dot.ep) := q 4 _ rfl
          have r5 : w1.cell? ⟨b, off + i * 6 + 5, none⟩ = some (.int .i64 y.dot.seq) := q 5 _ rfl
          have z0 := hbx.cell 0 _ rfl
          have z1 := hbx.cell 1 _ rfl
          have z2 := hbx.cell 2 _ rfl
          have z3 := hbx.cell 3 _ rfl
          have z4 := hbx.cell 4 _ rfl
          have z5 := hbx.cell 5 _ rfl
          have f0 : w1.frozen? ⟨b, off + i * 6, none⟩ = false := hown1.free i 0 (by omega) (by omega)
          have f1 := hown1.free i 1 (by omega) (by omega)
          have f2 := hown1.free i 2 (by omega) (by omega)
          have f3 := hown1.free i 3 (by omega) (by omega)
          have f4 := hown1.free i 4 (by omega) (by omega)
          have f5 := hown1.free i 5 (by omega) (by omega)
          have hov := hown1.over hk HAl.out.symm i (by have := HAl.out; omega) x
          have hxo : Ext (blk (some ⟨b, off, none⟩)) w1 (w1.setCells b (off + i * 6) (ElemR.cells x)) := Ext.setCells b _ _ _ ⟨_, rfl, rfl⟩
          clear q
          go_wp2_with fail
          go_roundw
          case rel => exact ⟨i + 1, j + 1, A.set i x, by omega, by omega, by go_num, by go_num, by rw [List.length_set, HAl.out], by rw [set_take_snoc A i x (by have := HAl.out; omega), HAt.out, Hsx.out, hp]; simp, by rw [List.drop_set_of_lt (by omega), ← List.drop_drop, HAd.out, List.drop_drop], hov, (hx.comp (no2 hxn)).comp hxo⟩
          case measure => simp [intOf]; omega
      · obtain rfl : j = l.length := by omega
        have d1 : decide (l.length < l.length) = false := decF (by omega)
        have hcl : ∀ w, (Instr.sliceAt 27 (.slice (some ⟨b, off, none⟩) l.length c) (some (.int .i64 (i : Int))) none none).run Tryz.prog w = .ok (.slice (some ⟨b, off + i * 6, none⟩) (l.length - i) (c - i)) w := fun w => by rw [run_cut_l TElem w _ _ c .i64 i (by omega), cutAt_some (by omega), Addr.add_lit]
        have hch : ∀ w, (Instr.sliceAt 27 (.slice (some ⟨b, off, none⟩) l.length c) none (some (.int .i64 (i : Int))) none).run Tryz.prog w = .ok (.slice (some ⟨b, off, none⟩) i c) w := fun w => run_cut_h TElem w _ _ c .i64 i (by omega)
        obtain ⟨w9, zs, hrun, hown9, hzl, hx9⟩ := run_clear_own (P := Tryz.prog) (ty := 0) TElem (by simp [Value.cells, Value.oneCell']) hown (off := i) (cx := c - i) (by omega)
        rw [Addr.add_lit] at hrun
        have hF : l.filter (fun x => !p x) = A.take i := by rw [HAt.out, List.take_length]
        have hFl : (l.filter (fun x => !p x)).length = i := by rw [hF, List.length_take]; have := HAl.out; omega
        have hfr := hown9.front i (by omega)
        rw [List.take_append_of_le_length (by rw [List.length_take, rows_length hk, HAl.out]; omega), List.take_take, Nat.min_self, rows_take hk, ← hF] at hfr
        have HF := Lib.hid hFl
        clear hF hFl
        go_wp2_with fail
        go_ret
        exact ⟨by rw [HF.out]; rfl, by rw [HF.out]; exact hfr, hx.comp hx9⟩
  · have e : n = l.length := by omega
    subst e
    have hF : l.filter (fun x => !p x) = l := by have := take_none l p l.length hgo; rwa [List.take_length] at this
    rw [hF]
    clear hF hnl
    go_enter Tryz.func59, Tryz.ntmps59
    go_wp2_with fail
    refine (indexFunc_any w _ c l fn qb qo p ho.rd hl he (fun w' x hm hx => hf w' x hm (no2 hx)) l.length (Nat.le_refl _) hgo hst).mono ?_
    rintro e w0 ⟨rfl, hx0⟩
    rw [if_neg (Nat.lt_irrefl _)]
    have hown0 := ho.ext hx0 (fun _ _ h => h)
    go_wp2_with fail
    go_ret
    exact ⟨rfl, hown0, no2 hx0⟩
end Go.Proofs.YtejmmkjpncpedaaGreat
