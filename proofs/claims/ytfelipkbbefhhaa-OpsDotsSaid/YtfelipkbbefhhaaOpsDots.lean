/- The walk of the law OpsDots. -/
import Derived.Test.YtfelipkbbefhhaaOpL
import Derived.Test.YtfelipkbbefhhaaOpD
namespace Go.Proofs.Ytfelipkbbefhhaa
open Go.RowKit Go.Esc
set_option linter.unusedVariables false

set_option maxRecDepth 100000 in
set_option maxHeartbeats 8000000 in
theorem dots_walk (w : World) (na : Option Addr) (ns : List Int) (nc : Nat) (hnd : Rd w na (is ns)) (hno : ∀ x ∈ ns, I64ok x) (hnl : ns.length ≤ nc) (hnc : nc ≤ maxLen) :
    Calls Try.prog 6 #[.slice na ns.length nc] w fun e w' => e = .returned (.bool true) ∧ Ext no w w' := by
  unfold maxLen at hnc
  go_enter Try.func6, Try.ntmps6
  go_wp2_with fail
  refine (known_any w).mono ?_
  rintro e w1 ⟨rfl, hx1⟩
  by_cases h12 : 12 < ns.length
  · have d0 : decide ((12 : Int) < ns.length) = true := decT (by omega)
    go_wp2_with fail
    go_ret
    exact ⟨rfl, hx1⟩
  have d0 : decide ((12 : Int) < ns.length) = false := decF (by omega)
  go_upto_region 7 with fail
  have hb2 := Blk.lit w1 #[.int .i64 0, .int .i64 1, .int .i64 1, .int .i64 0, .int .i64 1, .int .i64 3, .string { data := #[107] }, .string { data := #[] }, .int .i64 0, .int .i64 0, .slice none 0 0] 26
  have hx2 := hx1.comp (Ext.alloc no w1 (.cells #[.int .i64 0, .int .i64 1, .int .i64 1, .int .i64 0, .int .i64 1, .int .i64 3, .string { data := #[107] }, .string { data := #[] }, .int .i64 0, .int .i64 0, .slice none 0 0] 26))
  have hgs : w1.heap.size < (w1.alloc (.cells #[.int .i64 0, .int .i64 1, .int .i64 1, .int .i64 0, .int .i64 1, .int .i64 3, .string { data := #[107] }, .string { data := #[] }, .int .i64 0, .int .i64 0, .slice none 0 0] 26)).heap.size := by simp
  have hwg : w.heap.size ≤ w1.heap.size := hx1.size
  clear hx1
  generalize w1.alloc (.cells #[.int .i64 0, .int .i64 1, .int .i64 1, .int .i64 0, .int .i64 1, .int .i64 3, .string { data := #[107] }, .string { data := #[] }, .int .i64 0, .int .i64 0, .slice none 0 0] 26) = w2 at *
  generalize w1.heap.size = g at *
  go_wp2_with fail
  go_loopw [4, 5, 6] (fun s4 s5 s6 wr => ∃ (k : Nat) (D : List DotR) (a : Option Addr) (c : Nat), k ≤ ns.length ∧ s5 = .int .i64 k ∧ s4 = .bool (risesB D) ∧ D.length = k ∧ Blk wr g [.int .i64 0, .int .i64 1, .int .i64 1, .int .i64 0, .int .i64 1, .int .i64 3, .string { data := #[107] }, .string { data := #[] }, .int .i64 0, .int .i64 0, .slice a D.length c] ∧ Own wr (g + 1) a 3 D.length c (ds D) ∧ Ext no w wr) (fun _ s5 _ _ => ns.length - (intOf s5).toNat)
  case atStart => exact ⟨0, [], none, 0, by omega, rfl, rfl, rfl, hb2, Own.nil _ _ _, hx2⟩
  case round =>
    clear hb2 hx2 hgs
    obtain ⟨k, D, a, c, hk, rfl, rfl, hD, hblk, hown, hx⟩ := hrel
    have HD := Lib.hid hD
    clear hD
    have hg := hblk.lt (by simp)
    by_cases hkl : k < ns.length
    · have d1 : decide (k < ns.length) = true := decT hkl
      have hr := hnd.ext hx (fun _ _ h => h)
      obtain ⟨ab, ao, rfl, hlt⟩ := hr.shape (by rw [is_length]; omega)
      have q0 : wr.cell? ⟨ab, ao + k, none⟩ = some (.int .i64 ns[k]) := by
        have := hr.lookup k (by rw [is_length]; exact hkl)
        simpa [is, I64] using this
      have hxo : I64ok ns[k] := hno _ (List.getElem_mem hkl)
      generalize ns[k] = x at *
      have hx2o := tdiv2_ok x hxo
      have hx4o := tdiv4_ok x hxo
      have hw2 : IntKind.i64.wrap (x.tdiv 2) = x.tdiv 2 := by rw [IntKind.wrap_i64]; unfold I64ok at hx2o; omega
      have hw4 : IntKind.i64.wrap (x.tdiv 4) = x.tdiv 4 := by rw [IntKind.wrap_i64]; unfold I64ok at hx4o; omega
      have hS0 := Ext.drew no wr
      go_upto_region 10 with fail
      go_cut [6] (fun s6 wx => s6 = .pointer (some ⟨wr.heap.size, 0, none⟩) ∧ wx = wr.drew.alloc (.cells #[.int .i64 (x % 2), .int .i64 (1 + x.tdiv 2 % 2), .int .i64 (1 + x.tdiv 4 % 4)] 23))
      case first =>
        --<A
        refine wp_region_E [3, 8, 15] (fun z => Ext no wr z) (by kernel_rfl) ?_
        refine wpE_take 0 (v := ?_) rfl (by kernel_rfl) (by kernel_rfl) (by kernel_rfl) (fun _ _ _ h => h) hS0 (by rfl) ?_ ?_
        rotate_left
        · (intro wq; go_simp; try with_reducible rfl)
        simp only [Act.put, List.setIfInBounds_toArray, List.set_cons_zero, List.set_cons_succ]
        refine wpE_take 1 (v := ?_) rfl (by kernel_rfl) (by kernel_rfl) (by kernel_rfl) (fun _ _ _ h => h) hS0 (by rfl) ?_ ?_
        rotate_left
        · (intro wq; go_simp; try with_reducible rfl)
        simp only [Act.put, List.setIfInBounds_toArray, List.set_cons_zero, List.set_cons_succ]
        refine wpE_take 2 (v := .pointer (some ⟨ab, ao + k, none⟩)) rfl (by kernel_rfl) (by kernel_rfl) (by kernel_rfl) (fun _ _ _ h => h) hS0 (by rfl) (by intro wq; go_simp) ?_
        simp only [Act.put, List.setIfInBounds_toArray, List.set_cons_zero, List.set_cons_succ]
        refine wpE_look 3 (v := .int .i64 x) rfl rfl (by kernel_rfl) (by kernel_rfl) (by kernel_rfl) (by kernel_rfl) (fun _ _ _ h => h) hS0 (by rfl) (fun w hS => by have q := hS.keeps q0 (fun h => h); go_simp) ?_
        simp only [Act.put, List.setIfInBounds_toArray, List.set_cons_zero, List.set_cons_succ]
        refine wpE_take 5 (v := ?_) rfl (by kernel_rfl) (by kernel_rfl) (by kernel_rfl) (fun _ _ _ h => h) hS0 (by rfl) ?_ ?_
        rotate_left
        · (intro wq; go_simp; try with_reducible rfl)
        simp only [Act.put, List.setIfInBounds_toArray, List.set_cons_zero, List.set_cons_succ]
        refine wpE_take 6 (v := ?_) rfl (by kernel_rfl) (by kernel_rfl) (by kernel_rfl) (fun _ _ _ h => h) hS0 (by rfl) ?_ ?_
        rotate_left
        · (intro wq; go_simp; try with_reducible rfl)
        simp only [Act.put, List.setIfInBounds_toArray, List.set_cons_zero, List.set_cons_succ]
        refine wpE_take 7 (v := .pointer (some ⟨ab, ao + k, none⟩)) rfl (by kernel_rfl) (by kernel_rfl) (by kernel_rfl) (fun _ _ _ h => h) hS0 (by rfl) (by intro wq; go_simp) ?_
        simp only [Act.put, List.setIfInBounds_toArray, List.set_cons_zero, List.set_cons_succ]
        refine wpE_look 8 (v := .int .i64 x) rfl rfl (by kernel_rfl) (by kernel_rfl) (by kernel_rfl) (by kernel_rfl) (fun _ _ _ h => h) hS0 (by rfl) (fun w hS => by have q := hS.keeps q0 (fun h => h); go_simp) ?_
        simp only [Act.put, List.setIfInBounds_toArray, List.set_cons_zero, List.set_cons_succ]
        refine wpE_take 9 (v := .int .i64 (x.tdiv 2)) rfl (by kernel_rfl) (by kernel_rfl) (by kernel_rfl) (fun _ _ _ h => h) hS0 (by rfl) (by intro wq; go_simp) ?_
        simp only [Act.put, List.setIfInBounds_toArray, List.set_cons_zero, List.set_cons_succ]
        refine wpE_take 12 (v := ?_) rfl (by kernel_rfl) (by kernel_rfl) (by kernel_rfl) (fun _ _ _ h => h) hS0 (by rfl) ?_ ?_
        rotate_left
        · (intro wq; go_simp; try with_reducible rfl)
        simp only [Act.put, List.setIfInBounds_toArray, List.set_cons_zero, List.set_cons_succ]
        refine wpE_take 13 (v := ?_) rfl (by kernel_rfl) (by kernel_rfl) (by kernel_rfl) (fun _ _ _ h => h) hS0 (by rfl) ?_ ?_
        rotate_left
        · (intro wq; go_simp; try with_reducible rfl)
        simp only [Act.put, List.setIfInBounds_toArray, List.set_cons_zero, List.set_cons_succ]
        refine wpE_take 14 (v := .pointer (some ⟨ab, ao + k, none⟩)) rfl (by kernel_rfl) (by kernel_rfl) (by kernel_rfl) (fun _ _ _ h => h) hS0 (by rfl) (by intro wq; go_simp) ?_
        simp only [Act.put, List.setIfInBounds_toArray, List.set_cons_zero, List.set_cons_succ]
        refine wpE_look 15 (v := .int .i64 x) rfl rfl (by kernel_rfl) (by kernel_rfl) (by kernel_rfl) (by kernel_rfl) (fun _ _ _ h => h) hS0 (by rfl) (fun w hS => by have q := hS.keeps q0 (fun h => h); go_simp) ?_
        simp only [Act.put, List.setIfInBounds_toArray, List.set_cons_zero, List.set_cons_succ]
        refine wpE_take 16 (v := .int .i64 (x.tdiv 4)) rfl (by kernel_rfl) (by kernel_rfl) (by kernel_rfl) (fun _ _ _ h => h) hS0 (by rfl) (by intro wq; go_simp) ?_
        simp only [Act.put, List.setIfInBounds_toArray, List.set_cons_zero, List.set_cons_succ]
        refine wpE_execs [4, 20] (by kernel_rfl) (by simp) ?_
        intro j hj
        simp only [List.mem_cons, List.not_mem_nil, or_false] at hj
        rcases hj with rfl | rfl
        · refine ⟨_, rfl, by rfl, ?_⟩
          intro K hK
          go_simp
          refine (within_any x 2 _ (by omega) (by omega) hxo).mono ?_
          rintro e w5 ⟨rfl, rfl⟩
          refine hK _ _ (fun z => Ext no wr z) (.inr (fun z h => h)) hS0 ?_
          clear hK K
          try simp only [Act.put, List.setIfInBounds_toArray, List.set_cons_zero, List.set_cons_succ]
          refine wpE_execs [10, 20] (by kernel_rfl) (by simp) ?_
          intro j hj
          simp only [List.mem_cons, List.not_mem_nil, or_false] at hj
          rcases hj with rfl | rfl
          · refine ⟨_, rfl, by rfl, ?_⟩
            intro K hK
            go_simp
            refine (within_any (x.tdiv 2) 2 _ (by omega) (by omega) hx2o).mono ?_
            rintro e w5 ⟨rfl, rfl⟩
            refine hK _ _ (fun z => Ext no wr z) (.inr (fun z h => h)) hS0 ?_
            clear hK K
            try simp only [Act.put, List.setIfInBounds_toArray, List.set_cons_zero, List.set_cons_succ]
            refine wpE_take 11 (v := .int .i64 (1 + x.tdiv 2 % 2)) rfl (by kernel_rfl) (by kernel_rfl) (by kernel_rfl) (fun _ _ _ h => h) hS0 (by rfl) (by intro wq; go_simp; rw [IntKind.wrap_i64]; omega) ?_
            simp only [Act.put, List.setIfInBounds_toArray, List.set_cons_zero, List.set_cons_succ]
            refine wpE_execs [17, 20] (by kernel_rfl) (by simp) ?_
            intro j hj
            simp only [List.mem_cons, List.not_mem_nil, or_false] at hj
            rcases hj with rfl | rfl
            · refine ⟨_, rfl, by rfl, ?_⟩
              intro K hK
              go_simp
              refine (within_any (x.tdiv 4) 4 _ (by omega) (by omega) hx4o).mono ?_
              rintro e w5 ⟨rfl, rfl⟩
              refine hK _ _ (fun z => Ext no wr z) (.inr (fun z h => h)) hS0 ?_
              clear hK K
              try simp only [Act.put, List.setIfInBounds_toArray, List.set_cons_zero, List.set_cons_succ]
              refine wpE_take 18 (v := .int .i64 (1 + x.tdiv 4 % 4)) rfl (by kernel_rfl) (by kernel_rfl) (by kernel_rfl) (fun _ _ _ h => h) hS0 (by rfl) (by intro wq; go_simp; rw [IntKind.wrap_i64]; omega) ?_
              simp only [Act.put, List.setIfInBounds_toArray, List.set_cons_zero, List.set_cons_succ]
              refine wpE_take 19 (v := ?_) rfl (by kernel_rfl) (by kernel_rfl) (by kernel_rfl) (fun _ _ _ h => h) hS0 (by rfl) ?_ ?_
              rotate_left
              · (intro wq; go_simp; try with_reducible rfl)
              simp only [Act.put, List.setIfInBounds_toArray, List.set_cons_zero, List.set_cons_succ]
              refine wpE_exec 20 rfl (by kernel_rfl) (by rfl) ?_
              intro K hK
              go_simp
              have hT3 := hS0.comp (Ext.alloc no _ (.cells #[.int .i64 0, .int .i64 0, .int .i64 0] 23))
              refine hK _ _ (fun z => Ext no wr z) (.inr (fun z h => h)) hT3 ?_
              clear hK K
              try simp only [Act.put, List.setIfInBounds_toArray, List.set_cons_zero, List.set_cons_succ]
              refine wpE_exec 21 rfl (by kernel_rfl) (by rfl) ?_
              intro K hK
              go_simp
              have hT4 := hS0.comp (Ext.alloc no wr.drew (.cells #[.int .i64 (x % 2), .int .i64 (1 + x.tdiv 2 % 2), .int .i64 (1 + x.tdiv 4 % 4)] 23))
              refine hK _ _ (fun z => Ext no wr z) (.inr (fun z h => h)) hT4 ?_
              clear hK K
              try simp only [Act.put, List.setIfInBounds_toArray, List.set_cons_zero, List.set_cons_succ]
              refine wpE_done (by kernel_rfl) ?_ _
              go_wp2_with fail
              go_meet
              exact ⟨rfl, rfl⟩
            · refine ⟨_, rfl, by rfl, ?_⟩
              intro K hK
              go_simp
              have hT2 := hS0.comp (Ext.alloc no _ (.cells #[.int .i64 0, .int .i64 0, .int .i64 0] 23))
              refine hK _ _ (fun z => Ext no wr z) (.inr (fun z h => h)) hT2 ?_
              clear hK K
              try simp only [Act.put, List.setIfInBounds_toArray, List.set_cons_zero, List.set_cons_succ]
              refine wpE_exec 17 rfl (by kernel_rfl) (by rfl) ?_
              intro K hK
              go_simp
              refine (within_any (x.tdiv 4) 4 _ (by omega) (by omega) hx4o).mono ?_
              rintro e w5 ⟨rfl, rfl⟩
              refine hK _ _ (fun z => Ext no wr z) (.inr (fun z h => h)) hT2 ?_
              clear hK K
              try simp only [Act.put, List.setIfInBounds_toArray, List.set_cons_zero, List.set_cons_succ]
              refine wpE_take 18 (v := .int .i64 (1 + x.tdiv 4 % 4)) rfl (by kernel_rfl) (by kernel_rfl) (by kernel_rfl) (fun _ _ _ h => h) hT2 (by rfl) (by intro wq; go_simp; rw [IntKind.wrap_i64]; omega) ?_
              simp only [Act.put, List.setIfInBounds_toArray, List.set_cons_zero, List.set_cons_succ]
              refine wpE_take 19 (v := ?_) rfl (by kernel_rfl) (by kernel_rfl) (by kernel_rfl) (fun _ _ _ h => h) hT2 (by rfl) ?_ ?_
              rotate_left
              · (intro wq; go_simp; try with_reducible rfl)
              simp only [Act.put, List.setIfInBounds_toArray, List.set_cons_zero, List.set_cons_succ]
              refine wpE_exec 21 rfl (by kernel_rfl) (by rfl) ?_
              intro K hK
              go_simp
              have hT4 := hS0.comp (Ext.alloc no wr.drew (.cells #[.int .i64 (x % 2), .int .i64 (1 + x.tdiv 2 % 2), .int .i64 (1 + x.tdiv 4 % 4)] 23))
              refine hK _ _ (fun z => Ext no wr z) (.inr (fun z h => h)) hT4 ?_
              clear hK K
              try simp only [Act.put, List.setIfInBounds_toArray, List.set_cons_zero, List.set_cons_succ]
              refine wpE_done (by kernel_rfl) ?_ _
              go_wp2_with fail
              go_meet
              exact ⟨rfl, rfl⟩
          · refine ⟨_, rfl, by rfl, ?_⟩
            intro K hK
            go_simp
            have hT1 := hS0.comp (Ext.alloc no _ (.cells #[.int .i64 0, .int .i64 0, .int .i64 0] 23))
            refine hK _ _ (fun z => Ext no wr z) (.inr (fun z h => h)) hT1 ?_
            clear hK K
            try simp only [Act.put, List.setIfInBounds_toArray, List.set_cons_zero, List.set_cons_succ]
            refine wpE_exec 10 rfl (by kernel_rfl) (by rfl) ?_
            intro K hK
            go_simp
            refine (within_any (x.tdiv 2) 2 _ (by omega) (by omega) hx2o).mono ?_
            rintro e w5 ⟨rfl, rfl⟩
            refine hK _ _ (fun z => Ext no wr z) (.inr (fun z h => h)) hT1 ?_
            clear hK K
            try simp only [Act.put, List.setIfInBounds_toArray, List.set_cons_zero, List.set_cons_succ]
            refine wpE_take 11 (v := .int .i64 (1 + x.tdiv 2 % 2)) rfl (by kernel_rfl) (by kernel_rfl) (by kernel_rfl) (fun _ _ _ h => h) hT1 (by rfl) (by intro wq; go_simp; rw [IntKind.wrap_i64]; omega) ?_
            simp only [Act.put, List.setIfInBounds_toArray, List.set_cons_zero, List.set_cons_succ]
            refine wpE_exec 17 rfl (by kernel_rfl) (by rfl) ?_
            intro K hK
            go_simp
            refine (within_any (x.tdiv 4) 4 _ (by omega) (by omega) hx4o).mono ?_
            rintro e w5 ⟨rfl, rfl⟩
            refine hK _ _ (fun z => Ext no wr z) (.inr (fun z h => h)) hT1 ?_
            clear hK K
            try simp only [Act.put, List.setIfInBounds_toArray, List.set_cons_zero, List.set_cons_succ]
            refine wpE_take 18 (v := .int .i64 (1 + x.tdiv 4 % 4)) rfl (by kernel_rfl) (by kernel_rfl) (by kernel_rfl) (fun _ _ _ h => h) hT1 (by rfl) (by intro wq; go_simp; rw [IntKind.wrap_i64]; omega) ?_
            simp only [Act.put, List.setIfInBounds_toArray, List.set_cons_zero, List.set_cons_succ]
            refine wpE_take 19 (v := ?_) rfl (by kernel_rfl) (by kernel_rfl) (by kernel_rfl) (fun _ _ _ h => h) hT1 (by rfl) ?_ ?_
            rotate_left
            · (intro wq; go_simp; try with_reducible rfl)
            simp only [Act.put, List.setIfInBounds_toArray, List.set_cons_zero, List.set_cons_succ]
            refine wpE_exec 21 rfl (by kernel_rfl) (by rfl) ?_
            intro K hK
            go_simp
            have hT4 := hS0.comp (Ext.alloc no wr.drew (.cells #[.int .i64 (x % 2), .int .i64 (1 + x.tdiv 2 % 2), .int .i64 (1 + x.tdiv 4 % 4)] 23))
            refine hK _ _ (fun z => Ext no wr z) (.inr (fun z h => h)) hT4 ?_
            clear hK K
            try simp only [Act.put, List.setIfInBounds_toArray, List.set_cons_zero, List.set_cons_succ]
            refine wpE_done (by kernel_rfl) ?_ _
            go_wp2_with fail
            go_meet
            exact ⟨rfl, rfl⟩
        · refine ⟨_, rfl, by rfl, ?_⟩
          intro K hK
          go_simp
          have hT0 := hS0.comp (Ext.alloc no _ (.cells #[.int .i64 0, .int .i64 0, .int .i64 0] 23))
          refine hK _ _ (fun z => Ext no wr z) (.inr (fun z h => h)) hT0 ?_
          clear hK K
          try simp only [Act.put, List.setIfInBounds_toArray, List.set_cons_zero, List.set_cons_succ]
          refine wpE_exec 4 rfl (by kernel_rfl) (by rfl) ?_
          intro K hK
          go_simp
          refine (within_any x 2 _ (by omega) (by omega) hxo).mono ?_
          rintro e w5 ⟨rfl, rfl⟩
          refine hK _ _ (fun z => Ext no wr z) (.inr (fun z h => h)) hT0 ?_
          clear hK K
          try simp only [Act.put, List.setIfInBounds_toArray, List.set_cons_zero, List.set_cons_succ]
          refine wpE_exec 10 rfl (by kernel_rfl) (by rfl) ?_
          intro K hK
          go_simp
          refine (within_any (x.tdiv 2) 2 _ (by omega) (by omega) hx2o).mono ?_
          rintro e w5 ⟨rfl, rfl⟩
          refine hK _ _ (fun z => Ext no wr z) (.inr (fun z h => h)) hT0 ?_
          clear hK K
          try simp only [Act.put, List.setIfInBounds_toArray, List.set_cons_zero, List.set_cons_succ]
          refine wpE_take 11 (v := .int .i64 (1 + x.tdiv 2 % 2)) rfl (by kernel_rfl) (by kernel_rfl) (by kernel_rfl) (fun _ _ _ h => h) hT0 (by rfl) (by intro wq; go_simp; rw [IntKind.wrap_i64]; omega) ?_
          simp only [Act.put, List.setIfInBounds_toArray, List.set_cons_zero, List.set_cons_succ]
          refine wpE_exec 17 rfl (by kernel_rfl) (by rfl) ?_
          intro K hK
          go_simp
          refine (within_any (x.tdiv 4) 4 _ (by omega) (by omega) hx4o).mono ?_
          rintro e w5 ⟨rfl, rfl⟩
          refine hK _ _ (fun z => Ext no wr z) (.inr (fun z h => h)) hT0 ?_
          clear hK K
          try simp only [Act.put, List.setIfInBounds_toArray, List.set_cons_zero, List.set_cons_succ]
          refine wpE_take 18 (v := .int .i64 (1 + x.tdiv 4 % 4)) rfl (by kernel_rfl) (by kernel_rfl) (by kernel_rfl) (fun _ _ _ h => h) hT0 (by rfl) (by intro wq; go_simp; rw [IntKind.wrap_i64]; omega) ?_
          simp only [Act.put, List.setIfInBounds_toArray, List.set_cons_zero, List.set_cons_succ]
          refine wpE_take 19 (v := ?_) rfl (by kernel_rfl) (by kernel_rfl) (by kernel_rfl) (fun _ _ _ h => h) hT0 (by rfl) ?_ ?_
          rotate_left
          · (intro wq; go_simp; try with_reducible rfl)
          simp only [Act.put, List.setIfInBounds_toArray, List.set_cons_zero, List.set_cons_succ]
          refine wpE_exec 21 rfl (by kernel_rfl) (by rfl) ?_
          intro K hK
          go_simp
          have hT4 := hS0.comp (Ext.alloc no wr.drew (.cells #[.int .i64 (x % 2), .int .i64 (1 + x.tdiv 2 % 2), .int .i64 (1 + x.tdiv 4 % 4)] 23))
          refine hK _ _ (fun z => Ext no wr z) (.inr (fun z h => h)) hT4 ?_
          clear hK K
          try simp only [Act.put, List.setIfInBounds_toArray, List.set_cons_zero, List.set_cons_succ]
          refine wpE_done (by kernel_rfl) ?_ _
          go_wp2_with fail
          go_meet
          exact ⟨rfl, rfl⟩
        -->A
      case rest =>
        obtain ⟨e6, rfl⟩ := hcut
        subst e6
        have hdb := Blk.lit wr.drew #[.int .i64 (x % 2), .int .i64 (1 + x.tdiv 2 % 2), .int .i64 (1 + x.tdiv 4 % 4)] 23
        have hx3 := hS0.comp (Ext.alloc no wr.drew (.cells #[.int .i64 (x % 2), .int .i64 (1 + x.tdiv 2 % 2), .int .i64 (1 + x.tdiv 4 % 4)] 23))
        have hblk3 := hblk.ext (by simp) hx3 (fun h => h)
        have hown3 := hown.ext hx3 (fun _ _ h => h)
        have hgd : g < wr.heap.size := hg
        have hx03 := hx.comp hx3
        obtain ⟨d, hd⟩ : ∃ d : DotR, d = ⟨x % 2, 1 + x.tdiv 2 % 2, 1 + x.tdiv 4 % 4⟩ := ⟨_, rfl⟩
        have hd0 : x % 2 = d.dev := by rw [hd]
        have hd1 : 1 + x.tdiv 2 % 2 = d.ep := by rw [hd]
        have hd2 : 1 + x.tdiv 4 % 4 = d.seq := by rw [hd]
        have hdb' : Blk (wr.drew.alloc (.cells #[.int .i64 (x % 2), .int .i64 (1 + x.tdiv 2 % 2), .int .i64 (1 + x.tdiv 4 % 4)] 23)) wr.heap.size [.int .i64 d.dev, .int .i64 d.ep, .int .i64 d.seq] := by rw [← hd0, ← hd1, ← hd2]; exact hdb
        clear hdb
        generalize wr.drew.alloc (.cells #[.int .i64 (x % 2), .int .i64 (1 + x.tdiv 2 % 2), .int .i64 (1 + x.tdiv 4 % 4)] 23) = w3 at *
        clear hblk hown hx hx3 hS0 q0 hxo hx2o hx4o hw2 hw4 hd hd0 hd1 hd2 hr hg
        generalize wr.heap.size = db at *
        have c10 := hblk3.cell 10 _ rfl
        have y0 := hdb'.cell 0 _ rfl
        have y1 := hdb'.cell 1 _ rfl
        have y2 := hdb'.cell 2 _ rfl
        have hS0 := Ext.drew no w3
        go_upto_region 11 with fail
        go_cut [53] (fun s53 wx => (∃ b : Bool, s53 = .bool b ∧ risesB (D ++ [d]) = (risesB D && !b)) ∧ Ext no w3 wx)
        case first =>
          rcases Nat.eq_zero_or_pos k with rfl | hpos
          · have D0 : D = [] := List.eq_nil_of_length_eq_zero HD.out
            --<B
            refine wp_region_E [] (fun z => Ext no w3 z) (by kernel_rfl) ?_
            refine wpE_take 0 (v := ?_) rfl (by kernel_rfl) (by kernel_rfl) (by kernel_rfl) (fun _ _ _ h => h) hS0 (by rfl) ?_ ?_
            rotate_left
            · (intro wq; go_simp; try with_reducible rfl)
            simp only [Act.put, List.setIfInBounds_toArray, List.set_cons_zero, List.set_cons_succ]
            refine wpE_take 1 (v := .bool false) rfl (by kernel_rfl) (by kernel_rfl) (by kernel_rfl) (fun _ _ _ h => h) hS0 (by rfl) (by intro wq; go_simp) ?_
            simp only [Act.put, List.setIfInBounds_toArray, List.set_cons_zero, List.set_cons_succ]
            refine wpE_take 2 (v := ?_) rfl (by kernel_rfl) (by kernel_rfl) (by kernel_rfl) (fun _ _ _ h => h) hS0 (by rfl) ?_ ?_
            rotate_left
            · (intro wq; go_simp; try with_reducible rfl)
            simp only [Act.put, List.setIfInBounds_toArray, List.set_cons_zero, List.set_cons_succ]
            refine wpE_skip 3 rfl (by kernel_rfl) (by kernel_rfl) (by kernel_rfl) (fun _ _ _ h => h) hS0 (by rfl) ?_
            simp only [Act.put, List.setIfInBounds_toArray, List.set_cons_zero, List.set_cons_succ]
            refine wpE_skip 4 rfl (by kernel_rfl) (by kernel_rfl) (by kernel_rfl) (fun _ _ _ h => h) hS0 (by rfl) ?_
            simp only [Act.put, List.setIfInBounds_toArray, List.set_cons_zero, List.set_cons_succ]
            refine wpE_skip 5 rfl (by kernel_rfl) (by kernel_rfl) (by kernel_rfl) (fun _ _ _ h => h) hS0 (by rfl) ?_
            simp only [Act.put, List.setIfInBounds_toArray, List.set_cons_zero, List.set_cons_succ]
            refine wpE_skip 6 rfl (by kernel_rfl) (by kernel_rfl) (by kernel_rfl) (fun _ _ _ h => h) hS0 (by rfl) ?_
            simp only [Act.put, List.setIfInBounds_toArray, List.set_cons_zero, List.set_cons_succ]
            refine wpE_skip 7 rfl (by kernel_rfl) (by kernel_rfl) (by kernel_rfl) (fun _ _ _ h => h) hS0 (by rfl) ?_
            simp only [Act.put, List.setIfInBounds_toArray, List.set_cons_zero, List.set_cons_succ]
            refine wpE_skip 8 rfl (by kernel_rfl) (by kernel_rfl) (by kernel_rfl) (fun _ _ _ h => h) hS0 (by rfl) ?_
            simp only [Act.put, List.setIfInBounds_toArray, List.set_cons_zero, List.set_cons_succ]
            refine wpE_skip 9 rfl (by kernel_rfl) (by kernel_rfl) (by kernel_rfl) (fun _ _ _ h => h) hS0 (by rfl) ?_
            simp only [Act.put, List.setIfInBounds_toArray, List.set_cons_zero, List.set_cons_succ]
            refine wpE_skip 10 rfl (by kernel_rfl) (by kernel_rfl) (by kernel_rfl) (fun _ _ _ h => h) hS0 (by rfl) ?_
            simp only [Act.put, List.setIfInBounds_toArray, List.set_cons_zero, List.set_cons_succ]
            refine wpE_skip 11 rfl (by kernel_rfl) (by kernel_rfl) (by kernel_rfl) (fun _ _ _ h => h) hS0 (by rfl) ?_
            simp only [Act.put, List.setIfInBounds_toArray, List.set_cons_zero, List.set_cons_succ]
            refine wpE_take 12 (v := ?_) rfl (by kernel_rfl) (by kernel_rfl) (by kernel_rfl) (fun _ _ _ h => h) hS0 (by rfl) ?_ ?_
            rotate_left
            · (intro wq; go_simp; try with_reducible rfl)
            simp only [Act.put, List.setIfInBounds_toArray, List.set_cons_zero, List.set_cons_succ]
            refine wpE_done (by kernel_rfl) ?_ _
            go_wp2_with fail
            go_meet
            exact ⟨⟨false, rfl, by rw [D0]; rfl⟩, hS0⟩
            -->B
          · obtain ⟨m, rfl⟩ : ∃ m, k = m + 1 := ⟨k - 1, by omega⟩
            have hmD : m < D.length := by have := HD.out; omega
            obtain ⟨p, hpm⟩ : ∃ p, D[m]? = some p := ⟨_, List.getElem?_eq_getElem hmD⟩
            have HR := Lib.hid (risesB_snoc D d p (by rw [List.getLast?_eq_getElem?, HD.out]; exact hpm))
            obtain ⟨bb, bo, rfl, hbl⟩ := ds_shape hown3.rd (by omega)
            have x0 := ds_cell hown3.rd hpm 0 _ rfl
            have x1 := ds_cell hown3.rd hpm 1 _ rfl
            have x2 := ds_cell hown3.rd hpm 2 _ rfl
            rw [Nat.add_zero] at x0
            have d2 : decide ((0 : Int) < ((m + 1 : Nat) : Int)) = true := decT (by omega)
            --<C
            refine wp_region_E [4, 8, 9] (fun z => Ext no w3 z) (by kernel_rfl) ?_
            refine wpE_take 0 (v := ?_) rfl (by kernel_rfl) (by kernel_rfl) (by kernel_rfl) (fun _ _ _ h => h) hS0 (by rfl) ?_ ?_
            rotate_left
            · (intro wq; go_simp; try with_reducible rfl)
            simp only [Act.put, List.setIfInBounds_toArray, List.set_cons_zero, List.set_cons_succ]
            refine wpE_take 1 (v := .bool true) rfl (by kernel_rfl) (by kernel_rfl) (by kernel_rfl) (fun _ _ _ h => h) hS0 (by rfl) (by intro wq; go_simp) ?_
            simp only [Act.put, List.setIfInBounds_toArray, List.set_cons_zero, List.set_cons_succ]
            refine wpE_take 2 (v := ?_) rfl (by kernel_rfl) (by kernel_rfl) (by kernel_rfl) (fun _ _ _ h => h) hS0 (by rfl) ?_ ?_
            rotate_left
            · (intro wq; go_simp; try with_reducible rfl)
            simp only [Act.put, List.setIfInBounds_toArray, List.set_cons_zero, List.set_cons_succ]
            refine wpE_take 3 (v := ?_) rfl (by kernel_rfl) (by kernel_rfl) (by kernel_rfl) (fun _ _ _ h => h) hS0 (by rfl) ?_ ?_
            rotate_left
            · (intro wq; go_simp; try with_reducible rfl)
            simp only [Act.put, List.setIfInBounds_toArray, List.set_cons_zero, List.set_cons_succ]
            refine wpE_look 4 (v := .slice (some ⟨bb, bo, none⟩) D.length c) rfl rfl (by kernel_rfl) (by kernel_rfl) (by kernel_rfl) (by kernel_rfl) (fun _ _ _ h => h) hS0 (by rfl) (fun w hS => by have q := hS.keeps c10 (fun h => h); go_simp) ?_
            simp only [Act.put, List.setIfInBounds_toArray, List.set_cons_zero, List.set_cons_succ]
            refine wpE_take 5 (v := ?_) rfl (by kernel_rfl) (by kernel_rfl) (by kernel_rfl) (fun _ _ _ h => h) hS0 (by rfl) ?_ ?_
            rotate_left
            · (intro wq; go_simp; try with_reducible rfl)
            simp only [Act.put, List.setIfInBounds_toArray, List.set_cons_zero, List.set_cons_succ]
            refine wpE_take 6 (v := .int .i64 (m : Int)) rfl (by kernel_rfl) (by kernel_rfl) (by kernel_rfl) (fun _ _ _ h => h) hS0 (by rfl) (by intro wq; go_simp; rw [IntKind.wrap_i64]; omega) ?_
            simp only [Act.put, List.setIfInBounds_toArray, List.set_cons_zero, List.set_cons_succ]
            refine wpE_take 7 (v := .pointer (some ⟨bb, bo + m * 3, none⟩)) rfl (by kernel_rfl) (by kernel_rfl) (by kernel_rfl) (fun _ _ _ h => h) hS0 (by rfl) (by intro wq; go_simp) ?_
            simp only [Act.put, List.setIfInBounds_toArray, List.set_cons_zero, List.set_cons_succ]
            refine wpE_look 8 (v := .agg #[.int .i64 p.dev, .int .i64 p.ep, .int .i64 p.seq]) rfl rfl (by kernel_rfl) (by kernel_rfl) (by kernel_rfl) (by kernel_rfl) (fun _ _ _ h => h) hS0 (by rfl) (fun w hS => by have q0 := hS.keeps x0 (fun h => h); have q1 := hS.keeps x1 (fun h => h); have q2 := hS.keeps x2 (fun h => h); go_simp) ?_
            simp only [Act.put, List.setIfInBounds_toArray, List.set_cons_zero, List.set_cons_succ]
            refine wpE_look 9 (v := .agg #[.int .i64 d.dev, .int .i64 d.ep, .int .i64 d.seq]) rfl rfl (by kernel_rfl) (by kernel_rfl) (by kernel_rfl) (by kernel_rfl) (fun _ _ _ h => h) hS0 (by rfl) (fun w hS => by have q0 := hS.keeps y0 (fun h => h); have q1 := hS.keeps y1 (fun h => h); have q2 := hS.keeps y2 (fun h => h); go_simp) ?_
            simp only [Act.put, List.setIfInBounds_toArray, List.set_cons_zero, List.set_cons_succ]
            refine wpE_exec 10 rfl (by kernel_rfl) (by rfl) ?_
            intro K hK
            go_simp
            refine (less_any w3.drew p d).mono ?_
            rintro e w5 ⟨rfl, hx5⟩
            have hS1 := hS0.comp hx5
            refine hK _ _ (fun z => Ext no w3 z) (.inr (fun z h => h)) hS1 ?_
            clear hK K
            refine wpE_take 11 (v := ?_) rfl (by kernel_rfl) (by kernel_rfl) (by kernel_rfl) (fun _ _ _ h => h) hS1 (by rfl) ?_ ?_
            rotate_left
            · (intro wq; go_simp; try with_reducible rfl)
            simp only [Act.put, List.setIfInBounds_toArray, List.set_cons_zero, List.set_cons_succ]
            refine wpE_take 12 (v := ?_) rfl (by kernel_rfl) (by kernel_rfl) (by kernel_rfl) (fun _ _ _ h => h) hS1 (by rfl) ?_ ?_
            rotate_left
            · (intro wq; go_simp; try with_reducible rfl)
            simp only [Act.put, List.setIfInBounds_toArray, List.set_cons_zero, List.set_cons_succ]
            refine wpE_done (by kernel_rfl) ?_ _
            go_wp2_with fail
            go_meet
            exact ⟨⟨!(p.lt d), rfl, by rw [HR.out, Bool.not_not]⟩, hS1⟩
            -->C
        case rest =>
          obtain ⟨⟨b, e53, hb⟩, hx4⟩ := hcut
          subst e53
          generalize wc = w4 at *
          have hblk4 := hblk3.ext (by simp) hx4 (fun h => h)
          have hown4 := hown3.ext hx4 (fun _ _ h => h)
          have hdb4 := hdb'.ext (by simp) hx4 (fun h => h)
          have hx04 := hx03.comp hx4
          have hdl := hdb4.lt (by simp)
          clear hS0 c10 y0 y1 y2 hblk3 hown3 hdb' hx03
          have c10 := hblk4.cell 10 _ rfl
          have y0 := hdb4.cell 0 _ rfl
          have y1 := hdb4.cell 1 _ rfl
          have y2 := hdb4.cell 2 _ rfl
          have hg4 := hblk4.lt (by simp)
          have HB := Lib.hid hb
          clear hb
          cases b with
          | false =>
            go_wp2_with (at_builtin; refine wpList_append TDots rfl rfl rfl (hown4.ext (Ext.alloc no _ _) (fun _ _ h => h)) rfl (Rd.lit w4 _ _ _) (by simp) (by intro u hu; simp at hu; rcases hu with rfl | rfl | rfl <;> rfl) (by unfold maxLen; have := HD.out; omega) (by have := HD.out; omega) (by simp; omega) ?_)
            intro a5 c5 w5 hA
            have hblk5 := (hblk4.ext (by simp) (Ext.alloc no w4 (.cells #[.int .i64 d.dev, .int .i64 d.ep, .int .i64 d.seq] 23)) (fun h => h)).ext (by simp) hA.ext (hown4.notBlk (by omega))
            have hx5 := (hx04.comp (Ext.alloc no w4 (.cells #[.int .i64 d.dev, .int .i64 d.ep, .int .i64 d.seq] 23))).trans hA.ext (fun i hi h => hown4.notBlk (by omega) h)
            have c10' := hblk5.cell 10 _ rfl
            have f10 := hblk5.fr 10
            have hbl6 : Blk (w5.setCell ⟨g, 10, none⟩ (.slice a5 (D.length + 1) c5)) g [.int .i64 0, .int .i64 1, .int .i64 1, .int .i64 0, .int .i64 1, .int .i64 3, .string { data := #[107] }, .string { data := #[] }, .int .i64 0, .int .i64 0, .slice a5 (D ++ [d]).length c5] := by
              rw [List.length_append]; exact hblk5.set 10 (.slice a5 (D.length + 1) c5) (by simp)
            have hxs := Ext.setCell w5 ⟨g, 10, none⟩ (.slice a5 (D.length + 1) c5) (S := just g) rfl
            have hown6 : Own (w5.setCell ⟨g, 10, none⟩ (.slice a5 (D.length + 1) c5)) (g + 1) a5 3 (D ++ [d]).length c5 (ds (D ++ [d])) := by
              rw [ds_append, List.length_append]
              exact hA.own.ext hxs (fun ad h e => by have := (hA.own.base ad h).1; simp only [Esc.just] at e; omega)
            have hx6 := hx5.trans hxs (fun i hi h => by simp only [Esc.just] at h; omega)
            have HL := Lib.hid (show (D ++ [d]).length = k + 1 by rw [List.length_append, HD.out]; rfl)
            clear hblk4 hown4 hx5 hdb4 hblk5 hA
            go_wp2_with fail
            go_roundw
            case rel => exact ⟨k + 1, D ++ [d], a5, c5, by omega, by go_num, by rw [HB.out]; simp, HL.out, hbl6, hown6, hx6⟩
            case measure => simp [intOf]; omega
          | true =>
            go_wp2_with (at_builtin; refine wpList_append TDots rfl rfl rfl (hown4.ext (Ext.alloc no _ _) (fun _ _ h => h)) rfl (Rd.lit w4 _ _ _) (by simp) (by intro u hu; simp at hu; rcases hu with rfl | rfl | rfl <;> rfl) (by unfold maxLen; have := HD.out; omega) (by have := HD.out; omega) (by simp; omega) ?_)
            intro a5 c5 w5 hA
            have hblk5 := (hblk4.ext (by simp) (Ext.alloc no w4 (.cells #[.int .i64 d.dev, .int .i64 d.ep, .int .i64 d.seq] 23)) (fun h => h)).ext (by simp) hA.ext (hown4.notBlk (by omega))
            have hx5 := (hx04.comp (Ext.alloc no w4 (.cells #[.int .i64 d.dev, .int .i64 d.ep, .int .i64 d.seq] 23))).trans hA.ext (fun i hi h => hown4.notBlk (by omega) h)
            have c10' := hblk5.cell 10 _ rfl
            have f10 := hblk5.fr 10
            have hbl6 : Blk (w5.setCell ⟨g, 10, none⟩ (.slice a5 (D.length + 1) c5)) g [.int .i64 0, .int .i64 1, .int .i64 1, .int .i64 0, .int .i64 1, .int .i64 3, .string { data := #[107] }, .string { data := #[] }, .int .i64 0, .int .i64 0, .slice a5 (D ++ [d]).length c5] := by
              rw [List.length_append]; exact hblk5.set 10 (.slice a5 (D.length + 1) c5) (by simp)
            have hxs := Ext.setCell w5 ⟨g, 10, none⟩ (.slice a5 (D.length + 1) c5) (S := just g) rfl
            have hown6 : Own (w5.setCell ⟨g, 10, none⟩ (.slice a5 (D.length + 1) c5)) (g + 1) a5 3 (D ++ [d]).length c5 (ds (D ++ [d])) := by
              rw [ds_append, List.length_append]
              exact hA.own.ext hxs (fun ad h e => by have := (hA.own.base ad h).1; simp only [Esc.just] at e; omega)
            have hx6 := hx5.trans hxs (fun i hi h => by simp only [Esc.just] at h; omega)
            have HL := Lib.hid (show (D ++ [d]).length = k + 1 by rw [List.length_append, HD.out]; rfl)
            clear hblk4 hown4 hx5 hdb4 hblk5 hA
            go_wp2_with fail
            go_roundw
            case rel => exact ⟨k + 1, D ++ [d], a5, c5, by omega, by go_num, by rw [HB.out]; simp, HL.out, hbl6, hown6, hx6⟩
            case measure => simp [intOf]; omega
    · have d1 : decide (k < ns.length) = false := decF hkl
      obtain rfl : k = ns.length := by omega
      have c0 := hblk.cell 0 _ rfl
      have c1 := hblk.cell 1 _ rfl
      have c2 := hblk.cell 2 _ rfl
      have c3 := hblk.cell 3 _ rfl
      have c4 := hblk.cell 4 _ rfl
      have c5 := hblk.cell 5 _ rfl
      have c6 := hblk.cell 6 _ rfl
      have c7 := hblk.cell 7 _ rfl
      have c8 := hblk.cell 8 _ rfl
      have c9 := hblk.cell 9 _ rfl
      have c10 := hblk.cell 10 _ rfl
      have HC := Lib.hid (show checkOp ⟨⟨0, 1, 1⟩, 0, 1, 3, [107], [], 0, 0, D⟩ = dotsErr D by
        unfold checkOp kindErr
        rw [if_neg (by simp [headOk]), if_neg (by simp), if_neg (by rw [show textOk [107] = true by decide, show textOk [] = true by decide]; simp), if_neg (by simp), if_pos rfl])
      go_wp2_with fail
      refine (check_any wr ⟨⟨0, 1, 1⟩, 0, 1, 3, [107], [], 0, 0, D⟩ a c hown.rd (by have := HD.out; simp; omega) (by unfold maxLen; simp) (by unfold maxLen; simp)).mono ?_
      rintro e w3 ⟨rfl, hx3⟩
      rw [HC.out]
      by_cases h8 : 8 < ns.length
      · have d8 : decide ((8 : Int) < ns.length) = true := decT (by omega)
        have hE : dotsErr D = 4 := by unfold dotsErr; rw [if_pos (by rw [HD.out]; exact h8)]
        rw [hE]
        clear hE
        go_wp2_with fail
        go_ret
        exact ⟨rfl, hx.comp hx3⟩
      · have d8 : decide ((8 : Int) < ns.length) = false := decF (by omega)
        cases hri : risesB D with
        | true =>
          have hE : dotsErr D = 0 := by unfold dotsErr; rw [if_neg (by rw [HD.out]; exact h8), if_pos hri]
          rw [hE]
          clear hE
          go_wp2_with fail
          go_ret
          exact ⟨rfl, hx.comp hx3⟩
        | false =>
          have hE : dotsErr D = 10 := by unfold dotsErr; rw [if_neg (by rw [HD.out]; exact h8), if_neg (by rw [hri]; simp)]
          rw [hE]
          clear hE
          go_wp2_with fail
          go_ret
          exact ⟨rfl, hx.comp hx3⟩
end Go.Proofs.Ytfelipkbbefhhaa
