/- The walk of kv.bytes. -/
import Derived.Test.YtpljcnjkdjblmaaKvD
namespace Go.Esc
open Go.RowKit
theorem encT_len (t : List UInt8) (h : t.length ≤ 1000) : (encT t).length ≤ 1010 := by
  unfold encT
  have := (encI_length t.length ⟨by omega, by omega⟩).1
  rw [List.length_append]
  omega
theorem chEnc_len (c : ChangeR) (hc : I64ok c.coll) (hs : c.short) : (chEnc c).length ≤ 2040 := by
  unfold chEnc
  have h1 := (encI_length c.coll hc).1
  have h2 := (encI_length (if c.del = true then 1 else 0) (by split <;> exact ⟨by omega, by omega⟩)).1
  have h3 := encT_len c.key hs.1
  have h4 := encT_len c.val hs.2
  simp only [List.length_append]
  omega
theorem chEncs_len (l : List ChangeR) (h : ∀ c ∈ l, I64ok c.coll ∧ c.short) : (l.flatMap chEnc).length ≤ 2040 * l.length := by
  induction l with
  | nil => simp
  | cons c l ih =>
    have h1 := chEnc_len c (h c (by simp)).1 (h c (by simp)).2
    have h2 := ih (fun d hd => h d (List.mem_cons_of_mem _ hd))
    rw [List.flatMap_cons, List.length_append, List.length_cons]
    omega
end Go.Esc
namespace Go.Proofs.Ytpljcnjkdjblmaa
open Go.RowKit Go.Esc
set_option linter.unusedVariables false
set_option linter.unusedSimpArgs false

set_option maxRecDepth 100000 in
set_option maxHeartbeats 4000000 in
theorem kvbytes_any (w : World) (la : Option Addr) (l : List ChangeR) (lc : Nat) (hr : Rd w la (rows ChangeR.cells l)) (hl : l.length ≤ 1000) (hc : ∀ c ∈ l, I64ok c.coll ∧ c.short) :
    Calls Try.prog 37 #[.slice la l.length lc] w fun e w' => ∃ a' c', e = .returned (.slice a' (kvEnc l).length c') ∧ Own w' w.heap.size a' 1 (kvEnc l).length c' (bs (kvEnc l)) ∧ Ext no w w' := by
  have Hc := Lib.hid hc
  clear hc
  obtain ⟨Z, hZ⟩ : ∃ Z, Z = kvEnc l := ⟨_, rfl⟩
  rw [← hZ]
  have HZ := Lib.hid hZ
  clear hZ
  go_enter Try.func37, Try.ntmps37
  go_wp2_with fail
  refine (int_any w none 0 [] l.length (Rd.nil _ _) (by simp) ⟨by omega, by omega⟩).mono ?_
  rintro e w0 ⟨b0, c0, rfl, hown0, hx0⟩
  rw [List.nil_append] at hown0
  go_wp2_with fail
  go_loopw [3, 13] (fun s3 s13 wr => ∃ (i : Nat) (E : List UInt8) (ba : Option Addr) (bc : Nat), s3 = .slice ba E.length bc ∧ s13 = .int .i64 i ∧ i ≤ l.length ∧ E = encI l.length ++ (l.take i).flatMap chEnc ∧ Own wr w.heap.size ba 1 E.length bc (bs E) ∧ Ext no w wr) (fun _ s13 _ => l.length - (intOf s13).toNat)
  case atStart => exact ⟨0, encI l.length, b0, c0, rfl, rfl, Nat.zero_le _, by simp, hown0, hx0⟩
  case round =>
    clear hown0 hx0
    obtain ⟨i, E, ba, bc, rfl, rfl, hil, hE, hown, hW⟩ := hrel
    have hEl : E.length ≤ 3000000 := by
      have h1 := (encI_length l.length ⟨by omega, by omega⟩).1
      have h2 := chEncs_len (l.take i) (fun c hc => Hc.out c (List.mem_of_mem_take hc))
      rw [List.length_take] at h2
      rw [hE, List.length_append]
      omega
    have HE := Lib.hid hE
    clear hE
    by_cases hin : i < l.length
    · have d1 : decide (i < l.length) = true := decT hin
      obtain ⟨c, hcm⟩ : ∃ c, l[i]? = some c := ⟨_, List.getElem?_eq_getElem hin⟩
      obtain ⟨hci, hcs⟩ := Hc.out c (List.mem_of_getElem? hcm)
      have hcs1 := hcs.1
      have hcs2 := hcs.2
      have hN : E ++ encI c.coll ++ encI (if c.del = true then 1 else 0) ++ encT c.key ++ encT c.val = encI l.length ++ (l.take (i + 1)).flatMap chEnc := by
        have e : l.take (i + 1) = l.take i ++ [c] := by rw [List.take_succ_eq_append_getElem hin, (List.getElem?_eq_some_iff.1 hcm).2]
        rw [e, List.flatMap_append, HE.out]
        simp only [List.flatMap_cons, List.flatMap_nil, List.append_nil, chEnc, List.append_assoc]
      have HN := Lib.hid hN
      clear hN hcs
      have l1 := (encI_length c.coll hci).1
      have l2 := (encI_length (if c.del = true then 1 else 0) (by split <;> exact ⟨by omega, by omega⟩)).1
      have l3 := encT_len c.key hcs1
      obtain ⟨b, off, hsa, _⟩ := rows_shape kChange (by omega) hr (by omega)
      subst hsa
      have hrr := hr.ext hW (fun _ _ h => h)
      have y0 : wr.cell? ⟨b, off + i * 4, none⟩ = some (.int .i64 c.coll) := rows_cell kChange hrr hcm 0 _ rfl
      have y1 : wr.cell? ⟨b, off + i * 4 + 1, none⟩ = some (.string (str c.key)) := rows_cell kChange hrr hcm 1 _ rfl
      have y2 : wr.cell? ⟨b, off + i * 4 + 2, none⟩ = some (.string (str c.val)) := rows_cell kChange hrr hcm 2 _ rfl
      have y3 : wr.cell? ⟨b, off + i * 4 + 3, none⟩ = some (.bool c.del) := rows_cell kChange hrr hcm 3 _ rfl
      clear hrr hcm
      go_upto_region 6 with fail
      have hX := Blk.lit wr #[.int .i64 c.coll, .string (str c.key), .string (str c.val), .bool c.del] 39
      have hxa := Ext.alloc no wr (.cells #[.int .i64 c.coll, .string (str c.key), .string (str c.val), .bool c.del] 39)
      replace hW := hW.comp hxa
      replace hown := hown.ext hxa (fun _ _ h => h)
      generalize wr.alloc (.cells #[.int .i64 c.coll, .string (str c.key), .string (str c.val), .bool c.del] 39) = w1 at *
      generalize wr.heap.size = g at *
      clear hxa y0 y1 y2 y3
      have z0 := hX.cell 0 _ rfl
      have z1 := hX.cell 1 _ rfl
      have z2 := hX.cell 2 _ rfl
      have z3 := hX.cell 3 _ rfl
      have hB := hW.size
      cases hdel : c.del with
      | true =>
        rw [hdel] at z3 l2
        have l2 : (encI 1).length ≤ 10 := l2
        go_upto_region 9 with fail
        refine wp_region_F [2, 7, 10] (looks [(2, fun z => Ext no w1 z), (7, fun z => Ext no w1 z), (10, fun z => Ext no w1 z)]) (by kernel_rfl) ?_
        have hT0 : ∀ k, looks [(2, fun z => Ext no w1 z), (7, fun z => Ext no w1 z), (10, fun z => Ext no w1 z)] k (w1.drew) := looks_all ⟨Ext.drew no w1, Ext.drew no w1, Ext.drew no w1, trivial⟩
        refine wpF_take 0 (v := ?_) rfl (by kernel_rfl) (by kernel_rfl) (by kernel_rfl) (fun _ _ _ h => h) hT0 (by rfl) ?_ ?_
        rotate_left
        · (intro wq; go_simp; try with_reducible rfl)
        simp only [Act.put, List.setIfInBounds_toArray, List.set_cons_zero, List.set_cons_succ]
        refine wpF_take 1 (v := ?_) rfl (by kernel_rfl) (by kernel_rfl) (by kernel_rfl) (fun _ _ _ h => h) hT0 (by rfl) ?_ ?_
        rotate_left
        · (intro wq; go_simp; try with_reducible rfl)
        simp only [Act.put, List.setIfInBounds_toArray, List.set_cons_zero, List.set_cons_succ]
        refine wpF_look 2 (v := .int .i64 c.coll) rfl rfl (by kernel_rfl) (by kernel_rfl) (by kernel_rfl) (by kernel_rfl) (fun _ _ _ h => h) hT0 (by rfl) (fun w hS => by have hS : Ext no w1 w := hS; have q0 := hS.keeps z0 (fun h => h); go_simp) ?_
        simp only [Act.put, List.setIfInBounds_toArray, List.set_cons_zero, List.set_cons_succ]
        refine wpF_take 4 (v := ?_) rfl (by kernel_rfl) (by kernel_rfl) (by kernel_rfl) (fun _ _ _ h => h) hT0 (by rfl) ?_ ?_
        rotate_left
        · (intro wq; go_simp; try with_reducible rfl)
        simp only [Act.put, List.setIfInBounds_toArray, List.set_cons_zero, List.set_cons_succ]
        refine wpF_take 6 (v := ?_) rfl (by kernel_rfl) (by kernel_rfl) (by kernel_rfl) (fun _ _ _ h => h) hT0 (by rfl) ?_ ?_
        rotate_left
        · (intro wq; go_simp; try with_reducible rfl)
        simp only [Act.put, List.setIfInBounds_toArray, List.set_cons_zero, List.set_cons_succ]
        refine wpF_look 7 (v := .string (str c.key)) rfl rfl (by kernel_rfl) (by kernel_rfl) (by kernel_rfl) (by kernel_rfl) (fun _ _ _ h => h) hT0 (by rfl) (fun w hS => by have hS : Ext no w1 w := hS; have q0 := hS.keeps z1 (fun h => h); go_simp) ?_
        simp only [Act.put, List.setIfInBounds_toArray, List.set_cons_zero, List.set_cons_succ]
        refine wpF_take 9 (v := ?_) rfl (by kernel_rfl) (by kernel_rfl) (by kernel_rfl) (fun _ _ _ h => h) hT0 (by rfl) ?_ ?_
        rotate_left
        · (intro wq; go_simp; try with_reducible rfl)
        simp only [Act.put, List.setIfInBounds_toArray, List.set_cons_zero, List.set_cons_succ]
        refine wpF_look 10 (v := .string (str c.val)) rfl rfl (by kernel_rfl) (by kernel_rfl) (by kernel_rfl) (by kernel_rfl) (fun _ _ _ h => h) hT0 (by rfl) (fun w hS => by have hS : Ext no w1 w := hS; have q0 := hS.keeps z2 (fun h => h); go_simp) ?_
        simp only [Act.put, List.setIfInBounds_toArray, List.set_cons_zero, List.set_cons_succ]
        refine wpF_exec 3 rfl (by kernel_rfl) (by rfl) ?_
        intro K hK
        go_simp
        refine (int_any _ ba bc E c.coll (hown.ext (Ext.drew no w1) (fun _ _ h => h)).rd (by omega) hci).mono ?_
        rintro e v1 ⟨a1, k1, rfl, o1, x1⟩
        obtain ⟨E1, hE1⟩ : ∃ E1, E1 = E ++ encI c.coll := ⟨_, rfl⟩
        rw [← hE1] at o1 ⊢
        have hl1 : E1.length ≤ 3002000 := by rw [hE1, List.length_append]; omega
        have HE1 := Lib.hid hE1
        clear hE1
        have hT1 : ∀ k, looks [(2, fun z => Ext no w1 z), (7, fun z => Ext no w1 z), (10, fun z => Ext no w1 z)] k (v1) := looks_all ⟨(Ext.drew no w1).comp x1, (Ext.drew no w1).comp x1, (Ext.drew no w1).comp x1, trivial⟩
        refine hK _ _ (looks [(2, fun z => Ext no w1 z), (7, fun z => Ext no w1 z), (10, fun z => Ext no w1 z)]) ⟨.inr (.inl (by kernel_rfl)), .inr (.inr (fun x h => h)), .inr (.inr (fun x h => h)), trivial⟩ hT1 ?_
        clear hK K
        try simp only [Act.put, List.setIfInBounds_toArray, List.set_cons_zero, List.set_cons_succ]
        replace x1 := (Ext.drew no w1).comp x1
        refine wpF_exec 5 rfl (by kernel_rfl) (by rfl) ?_
        intro K hK
        go_simp
        refine (int_any _ a1 k1 E1 1 o1.rd (by omega) ⟨by omega, by omega⟩).mono ?_
        rintro e v2 ⟨a2, k2, rfl, o2, x2⟩
        obtain ⟨E2, hE2⟩ : ∃ E2, E2 = E1 ++ encI 1 := ⟨_, rfl⟩
        rw [← hE2] at o2 ⊢
        have hl2 : E2.length ≤ 3004000 := by rw [hE2, List.length_append]; omega
        have HE2 := Lib.hid hE2
        clear hE2
        have hT2 : ∀ k, looks [(2, fun z => Ext no w1 z), (7, fun z => Ext no w1 z), (10, fun z => Ext no w1 z)] k (v2) := looks_all ⟨x1.comp x2, x1.comp x2, x1.comp x2, trivial⟩
        refine hK _ _ (looks [(2, fun z => Ext no w1 z), (7, fun z => Ext no w1 z), (10, fun z => Ext no w1 z)]) ⟨.inr (.inl (by kernel_rfl)), .inr (.inr (fun x h => h)), .inr (.inr (fun x h => h)), trivial⟩ hT2 ?_
        clear hK K
        try simp only [Act.put, List.setIfInBounds_toArray, List.set_cons_zero, List.set_cons_succ]
        replace x2 := x1.comp x2
        refine wpF_exec 8 rfl (by kernel_rfl) (by rfl) ?_
        intro K hK
        go_simp
        refine (text_any _ a2 k2 E2 c.key o2.rd (by omega) (by omega)).mono ?_
        rintro e v3 ⟨a3, k3, rfl, o3, x3⟩
        obtain ⟨E3, hE3⟩ : ∃ E3, E3 = E2 ++ encT c.key := ⟨_, rfl⟩
        rw [← hE3] at o3 ⊢
        have hl3 : E3.length ≤ 3006000 := by rw [hE3, List.length_append]; omega
        have HE3 := Lib.hid hE3
        clear hE3
        have hT3 : ∀ k, looks [(2, fun z => Ext no w1 z), (7, fun z => Ext no w1 z), (10, fun z => Ext no w1 z)] k (v3) := looks_all ⟨x2.comp x3, x2.comp x3, x2.comp x3, trivial⟩
        refine hK _ _ (looks [(2, fun z => Ext no w1 z), (7, fun z => Ext no w1 z), (10, fun z => Ext no w1 z)]) ⟨.inr (.inl (by kernel_rfl)), .inr (.inl (by kernel_rfl)), .inr (.inr (fun x h => h)), trivial⟩ hT3 ?_
        clear hK K
        try simp only [Act.put, List.setIfInBounds_toArray, List.set_cons_zero, List.set_cons_succ]
        replace x3 := x2.comp x3
        refine wpF_exec 11 rfl (by kernel_rfl) (by rfl) ?_
        intro K hK
        go_simp
        refine (text_any _ a3 k3 E3 c.val o3.rd (by omega) (by omega)).mono ?_
        rintro e v4 ⟨a4, k4, rfl, o4, x4⟩
        obtain ⟨E4, hE4⟩ : ∃ E4, E4 = E3 ++ encT c.val := ⟨_, rfl⟩
        rw [← hE4] at o4 ⊢
        have hl4 : True := trivial
        have HE4 := Lib.hid hE4
        clear hE4
        have hT4 : ∀ k, looks [(2, fun z => Ext no w1 z), (7, fun z => Ext no w1 z), (10, fun z => Ext no w1 z)] k (v4) := looks_all ⟨x3.comp x4, x3.comp x4, x3.comp x4, trivial⟩
        refine hK _ _ (looks [(2, fun z => Ext no w1 z), (7, fun z => Ext no w1 z), (10, fun z => Ext no w1 z)]) ⟨.inr (.inl (by kernel_rfl)), .inr (.inl (by kernel_rfl)), .inr (.inl (by kernel_rfl)), trivial⟩ hT4 ?_
        clear hK K
        try simp only [Act.put, List.setIfInBounds_toArray, List.set_cons_zero, List.set_cons_succ]
        replace x4 := x3.comp x4
        refine wpF_take 12 (v := ?_) rfl (by kernel_rfl) (by kernel_rfl) (by kernel_rfl) (fun _ _ _ h => h) hT4 (by rfl) ?_ ?_
        rotate_left
        · (intro wq; go_simp; try with_reducible rfl)
        simp only [Act.put, List.setIfInBounds_toArray, List.set_cons_zero, List.set_cons_succ]
        refine wpF_done (by kernel_rfl) ?_ _
        have HN4 := Lib.hid (show E4 = encI l.length ++ (l.take (i + 1)).flatMap chEnc by have q := HN.out; rw [hdel] at q; rw [HE4.out, HE3.out, HE2.out, HE1.out]; exact q)
        have o5 := o4.mono (show w.heap.size ≤ v3.heap.size from Nat.le_trans hB x3.size)
        clear o1 o2 o3 o4 hown z0 z1 z2 z3 hX
        go_wp2_with fail
        go_roundw
        case rel => exact ⟨i + 1, E4, a4, k4, rfl, by go_num, by omega, HN4.out, o5, hW.comp x4⟩
        case measure => simp [intOf]; omega
      | false =>
        rw [hdel] at z3 l2
        have l2 : (encI 0).length ≤ 10 := l2
        go_upto_region 9 with fail
        refine wp_region_F [2, 7, 10] (looks [(2, fun z => Ext no w1 z), (7, fun z => Ext no w1 z), (10, fun z => Ext no w1 z)]) (by kernel_rfl) ?_
        have hT0 : ∀ k, looks [(2, fun z => Ext no w1 z), (7, fun z => Ext no w1 z), (10, fun z => Ext no w1 z)] k (w1.drew) := looks_all ⟨Ext.drew no w1, Ext.drew no w1, Ext.drew no w1, trivial⟩
        refine wpF_take 0 (v := ?_) rfl (by kernel_rfl) (by kernel_rfl) (by kernel_rfl) (fun _ _ _ h => h) hT0 (by rfl) ?_ ?_
        rotate_left
        · (intro wq; go_simp; try with_reducible rfl)
        simp only [Act.put, List.setIfInBounds_toArray, List.set_cons_zero, List.set_cons_succ]
        refine wpF_take 1 (v := ?_) rfl (by kernel_rfl) (by kernel_rfl) (by kernel_rfl) (fun _ _ _ h => h) hT0 (by rfl) ?_ ?_
        rotate_left
        · (intro wq; go_simp; try with_reducible rfl)
        simp only [Act.put, List.setIfInBounds_toArray, List.set_cons_zero, List.set_cons_succ]
        refine wpF_look 2 (v := .int .i64 c.coll) rfl rfl (by kernel_rfl) (by kernel_rfl) (by kernel_rfl) (by kernel_rfl) (fun _ _ _ h => h) hT0 (by rfl) (fun w hS => by have hS : Ext no w1 w := hS; have q0 := hS.keeps z0 (fun h => h); go_simp) ?_
        simp only [Act.put, List.setIfInBounds_toArray, List.set_cons_zero, List.set_cons_succ]
        refine wpF_take 4 (v := ?_) rfl (by kernel_rfl) (by kernel_rfl) (by kernel_rfl) (fun _ _ _ h => h) hT0 (by rfl) ?_ ?_
        rotate_left
        · (intro wq; go_simp; try with_reducible rfl)
        simp only [Act.put, List.setIfInBounds_toArray, List.set_cons_zero, List.set_cons_succ]
        refine wpF_take 6 (v := ?_) rfl (by kernel_rfl) (by kernel_rfl) (by kernel_rfl) (fun _ _ _ h => h) hT0 (by rfl) ?_ ?_
        rotate_left
        · (intro wq; go_simp; try with_reducible rfl)
        simp only [Act.put, List.setIfInBounds_toArray, List.set_cons_zero, List.set_cons_succ]
        refine wpF_look 7 (v := .string (str c.key)) rfl rfl (by kernel_rfl) (by kernel_rfl) (by kernel_rfl) (by kernel_rfl) (fun _ _ _ h => h) hT0 (by rfl) (fun w hS => by have hS : Ext no w1 w := hS; have q0 := hS.keeps z1 (fun h => h); go_simp) ?_
        simp only [Act.put, List.setIfInBounds_toArray, List.set_cons_zero, List.set_cons_succ]
        refine wpF_take 9 (v := ?_) rfl (by kernel_rfl) (by kernel_rfl) (by kernel_rfl) (fun _ _ _ h => h) hT0 (by rfl) ?_ ?_
        rotate_left
        · (intro wq; go_simp; try with_reducible rfl)
        simp only [Act.put, List.setIfInBounds_toArray, List.set_cons_zero, List.set_cons_succ]
        refine wpF_look 10 (v := .string (str c.val)) rfl rfl (by kernel_rfl) (by kernel_rfl) (by kernel_rfl) (by kernel_rfl) (fun _ _ _ h => h) hT0 (by rfl) (fun w hS => by have hS : Ext no w1 w := hS; have q0 := hS.keeps z2 (fun h => h); go_simp) ?_
        simp only [Act.put, List.setIfInBounds_toArray, List.set_cons_zero, List.set_cons_succ]
        refine wpF_exec 3 rfl (by kernel_rfl) (by rfl) ?_
        intro K hK
        go_simp
        refine (int_any _ ba bc E c.coll (hown.ext (Ext.drew no w1) (fun _ _ h => h)).rd (by omega) hci).mono ?_
        rintro e v1 ⟨a1, k1, rfl, o1, x1⟩
        obtain ⟨E1, hE1⟩ : ∃ E1, E1 = E ++ encI c.coll := ⟨_, rfl⟩
        rw [← hE1] at o1 ⊢
        have hl1 : E1.length ≤ 3002000 := by rw [hE1, List.length_append]; omega
        have HE1 := Lib.hid hE1
        clear hE1
        have hT1 : ∀ k, looks [(2, fun z => Ext no w1 z), (7, fun z => Ext no w1 z), (10, fun z => Ext no w1 z)] k (v1) := looks_all ⟨(Ext.drew no w1).comp x1, (Ext.drew no w1).comp x1, (Ext.drew no w1).comp x1, trivial⟩
        refine hK _ _ (looks [(2, fun z => Ext no w1 z), (7, fun z => Ext no w1 z), (10, fun z => Ext no w1 z)]) ⟨.inr (.inl (by kernel_rfl)), .inr (.inr (fun x h => h)), .inr (.inr (fun x h => h)), trivial⟩ hT1 ?_
        clear hK K
        try simp only [Act.put, List.setIfInBounds_toArray, List.set_cons_zero, List.set_cons_succ]
        replace x1 := (Ext.drew no w1).comp x1
        refine wpF_exec 5 rfl (by kernel_rfl) (by rfl) ?_
        intro K hK
        go_simp
        refine (int_any _ a1 k1 E1 0 o1.rd (by omega) ⟨by omega, by omega⟩).mono ?_
        rintro e v2 ⟨a2, k2, rfl, o2, x2⟩
        obtain ⟨E2, hE2⟩ : ∃ E2, E2 = E1 ++ encI 0 := ⟨_, rfl⟩
        rw [← hE2] at o2 ⊢
        have hl2 : E2.length ≤ 3004000 := by rw [hE2, List.length_append]; omega
        have HE2 := Lib.hid hE2
        clear hE2
        have hT2 : ∀ k, looks [(2, fun z => Ext no w1 z), (7, fun z => Ext no w1 z), (10, fun z => Ext no w1 z)] k (v2) := looks_all ⟨x1.comp x2, x1.comp x2, x1.comp x2, trivial⟩
        refine hK _ _ (looks [(2, fun z => Ext no w1 z), (7, fun z => Ext no w1 z), (10, fun z => Ext no w1 z)]) ⟨.inr (.inl (by kernel_rfl)), .inr (.inr (fun x h => h)), .inr (.inr (fun x h => h)), trivial⟩ hT2 ?_
        clear hK K
        try simp only [Act.put, List.setIfInBounds_toArray, List.set_cons_zero, List.set_cons_succ]
        replace x2 := x1.comp x2
        refine wpF_exec 8 rfl (by kernel_rfl) (by rfl) ?_
        intro K hK
        go_simp
        refine (text_any _ a2 k2 E2 c.key o2.rd (by omega) (by omega)).mono ?_
        rintro e v3 ⟨a3, k3, rfl, o3, x3⟩
        obtain ⟨E3, hE3⟩ : ∃ E3, E3 = E2 ++ encT c.key := ⟨_, rfl⟩
        rw [← hE3] at o3 ⊢
        have hl3 : E3.length ≤ 3006000 := by rw [hE3, List.length_append]; omega
        have HE3 := Lib.hid hE3
        clear hE3
        have hT3 : ∀ k, looks [(2, fun z => Ext no w1 z), (7, fun z => Ext no w1 z), (10, fun z => Ext no w1 z)] k (v3) := looks_all ⟨x2.comp x3, x2.comp x3, x2.comp x3, trivial⟩
        refine hK _ _ (looks [(2, fun z => Ext no w1 z), (7, fun z => Ext no w1 z), (10, fun z => Ext no w1 z)]) ⟨.inr (.inl (by kernel_rfl)), .inr (.inl (by kernel_rfl)), .inr (.inr (fun x h => h)), trivial⟩ hT3 ?_
        clear hK K
        try simp only [Act.put, List.setIfInBounds_toArray, List.set_cons_zero, List.set_cons_succ]
        replace x3 := x2.comp x3
        refine wpF_exec 11 rfl (by kernel_rfl) (by rfl) ?_
        intro K hK
        go_simp
        refine (text_any _ a3 k3 E3 c.val o3.rd (by omega) (by omega)).mono ?_
        rintro e v4 ⟨a4, k4, rfl, o4, x4⟩
        obtain ⟨E4, hE4⟩ : ∃ E4, E4 = E3 ++ encT c.val := ⟨_, rfl⟩
        rw [← hE4] at o4 ⊢
        have hl4 : True := trivial
        have HE4 := Lib.hid hE4
        clear hE4
        have hT4 : ∀ k, looks [(2, fun z => Ext no w1 z), (7, fun z => Ext no w1 z), (10, fun z => Ext no w1 z)] k (v4) := looks_all ⟨x3.comp x4, x3.comp x4, x3.comp x4, trivial⟩
        refine hK _ _ (looks [(2, fun z => Ext no w1 z), (7, fun z => Ext no w1 z), (10, fun z => Ext no w1 z)]) ⟨.inr (.inl (by kernel_rfl)), .inr (.inl (by kernel_rfl)), .inr (.inl (by kernel_rfl)), trivial⟩ hT4 ?_
        clear hK K
        try simp only [Act.put, List.setIfInBounds_toArray, List.set_cons_zero, List.set_cons_succ]
        replace x4 := x3.comp x4
        refine wpF_take 12 (v := ?_) rfl (by kernel_rfl) (by kernel_rfl) (by kernel_rfl) (fun _ _ _ h => h) hT4 (by rfl) ?_ ?_
        rotate_left
        · (intro wq; go_simp; try with_reducible rfl)
        simp only [Act.put, List.setIfInBounds_toArray, List.set_cons_zero, List.set_cons_succ]
        refine wpF_done (by kernel_rfl) ?_ _
        have HN4 := Lib.hid (show E4 = encI l.length ++ (l.take (i + 1)).flatMap chEnc by have q := HN.out; rw [hdel] at q; rw [HE4.out, HE3.out, HE2.out, HE1.out]; exact q)
        have o5 := o4.mono (show w.heap.size ≤ v3.heap.size from Nat.le_trans hB x3.size)
        clear o1 o2 o3 o4 hown z0 z1 z2 z3 hX
        go_wp2_with fail
        go_roundw
        case rel => exact ⟨i + 1, E4, a4, k4, rfl, by go_num, by omega, HN4.out, o5, hW.comp x4⟩
        case measure => simp [intOf]; omega
    · have hiE : i = l.length := by omega
      subst hiE
      have d1 : decide (l.length < l.length) = false := decF (by omega)
      have hZE := Lib.hid (show Z = E by rw [HZ.out, HE.out, List.take_of_length_le (Nat.le_refl _)]; rfl)
      go_wp2_with fail
      go_ret
      exact ⟨ba, bc, by rw [hZE.out]; rfl, by rw [hZE.out]; exact hown, hW⟩
end Go.Proofs.Ytpljcnjkdjblmaa
