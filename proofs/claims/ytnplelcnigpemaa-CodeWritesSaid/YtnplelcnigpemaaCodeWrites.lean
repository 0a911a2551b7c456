/- The walk of the law CodeWrites. -/
import Derived.Test.YtnplelcnigpemaaLawA
import Derived.Test.YtnplelcnigpemaaRegion
import Derived.Deep.DeepCutAuto
namespace Go.Proofs.Ytnplelcnigpemaa
open Go.RowKit Go.Esc
set_option linter.unusedVariables false

set_option maxHeartbeats 1000000 in
theorem writes_walk (w : World) (a : Option Addr) (b : List UInt8) (c : Nat) (n : Int) (t : List UInt8) (la : Option Addr) (l : List Int) (lc : Nat) (hr : Rd w a (bs b)) (hc : b.length ≤ c) (hm : c ≤ maxLen) (hn : I64ok n)
    (ht : t.length ≤ maxLen) (hlr : Rd w la (is l)) (hlo : ∀ n ∈ l, I64ok n) (hlc : l.length ≤ lc) (hlm : lc ≤ maxLen) :
    Calls Try.prog 4 #[.slice a b.length c, .int .i64 n, .string (str t), .slice la l.length lc] w fun e w' => e = .returned (.bool true) ∧ Ext no w w' := by
  have hsz := str_size t
  unfold maxLen at hm ht hlm
  go_enter Try.func4, Try.ntmps4
  go_wp2_with fail
  refine (known_any w).mono ?_
  rintro e w1 ⟨rfl, hext1⟩
  by_cases hb : 300 < b.length
  · go_wp2_with fail
    go_ret
    exact ⟨rfl, hext1⟩
  by_cases hb5 : 500 < t.length
  · go_wp2_with fail
    go_ret
    exact ⟨rfl, hext1⟩
  by_cases hb1 : 100 < l.length
  · go_wp2_with fail
    go_ret
    exact ⟨rfl, hext1⟩
  have hz : Own (w1.alloc (.cells #[] 5)) w1.heap.size (some ⟨w1.heap.size, 0, none⟩) 1 0 0 [] := Own.fresh w1 _ _ _ _ _ _ _ _ (Nat.le_refl _) (by simp) (Nat.le_refl _) (Nat.zero_le _) (by simp) (by simp) (.inl (Nat.le_refl _))
  have hr1 := (hr.ext hext1 (fun _ _ h => h)).alloc (.cells #[] 5)
  have hlr1 := (hlr.ext hext1 (fun _ _ h => h)).alloc (.cells #[] 5)
  go_upto_region 6 with (at_builtin; refine wpList_append TBytes rfl rfl rfl hz rfl hr1 (by simp) (bs_one _) ?c1 ?c2 (by simp) ?_)
  case c1 => unfold maxLen; omega
  case c2 => omega
  intro wa wc w2 happ
  go_upto_region 6 with fail
  have hB : Below w1.heap.size w1 w2 := ((Below.refl _ _).alloc (Nat.le_refl _) _).trans (hz.below happ.ext (by simp))
  have hown0 := happ.own
  rw [Nat.zero_add, List.nil_append] at hown0
  have hG : Grows w1 w2.heap.size 1 wa b.length wc (bs b) w2.drew := ⟨hown0.drew, hB.drew, Nat.le_refl _, fun ad h => (hown0.base ad h).2.1⟩
  have hra := hr.ext hext1 (fun _ _ h => h)
  have hla := hlr.ext hext1 (fun _ _ h => h)
  clear happ hown0 hB hr1 hlr1 hz hr hlr
  have Hnl := Lib.hid hlo
  have Hn := Lib.hid hn
  clear hlo hn
  have hb' : b.length ≤ 549755813888 := by omega
  have hb2' : b.length ≤ 274877906944 := by omega
  have ht' : t.length ≤ 274877906944 := by omega
  have hl' : l.length ≤ 17179869184 := by omega
  have hapart : 0 < l.length → ∀ ad, la = some ad → ¬ blk wa ad.block := by
    rintro h0 ad hla0 ⟨ad', ha', he⟩
    obtain ⟨ad2, h2, h3⟩ := hla.ne (by simpa using h0)
    rw [hla0] at h2
    cases h2
    have := (hG.own.base ad' ha').1
    omega
  go_cut [8] (fun s8 wx => s8 = .bool true ∧ Below w1.heap.size w1 wx)
  case first =>
    refine wp_region_E [3, 7, 13, 17, 24, 28] (fun x => Grows w1 w2.heap.size 1 wa b.length wc (bs b) x) (by kernel_rfl) ?_
    refine wpE_take 0 (v := ?_) rfl (by kernel_rfl) (by kernel_rfl) (by kernel_rfl) (fun _ _ _ h => h) hG (by rfl) ?_ ?_
    rotate_left
    · (intro wq; go_simp; try with_reducible rfl)
    simp only [Act.put, List.setIfInBounds_toArray, List.set_cons_zero, List.set_cons_succ]
    refine wpE_take 1 (v := ?_) rfl (by kernel_rfl) (by kernel_rfl) (by kernel_rfl) (fun _ _ _ h => h) hG (by rfl) ?_ ?_
    rotate_left
    · (intro wq; go_simp; try with_reducible rfl)
    simp only [Act.put, List.setIfInBounds_toArray, List.set_cons_zero, List.set_cons_succ]
    refine wpE_take 4 (v := ?_) rfl (by kernel_rfl) (by kernel_rfl) (by kernel_rfl) (fun _ _ _ h => h) hG (by rfl) ?_ ?_
    rotate_left
    · (intro wq; go_simp; try with_reducible rfl)
    simp only [Act.put, List.setIfInBounds_toArray, List.set_cons_zero, List.set_cons_succ]
    refine wpE_take 5 (v := ?_) rfl (by kernel_rfl) (by kernel_rfl) (by kernel_rfl) (fun _ _ _ h => h) hG (by rfl) ?_ ?_
    rotate_left
    · (intro wq; go_simp; try with_reducible rfl)
    simp only [Act.put, List.setIfInBounds_toArray, List.set_cons_zero, List.set_cons_succ]
    refine wpE_exec 2 rfl (by kernel_rfl) (by rfl) ?_
    intro K hK
    go_simp
    refine (int_any _ a c b n (hra.below hG.below) hb' Hn.out).mono ?_
    rintro e w3 ⟨a3, c3, rfl, ho, hx⟩
    have hg := hG.no hx
    rw [List.length_append] at ho
    have ho := ho.mono hG.size
    have hS2 := And.intro hg ho
    refine hK _ _ (fun x => Grows w1 w2.heap.size 1 wa b.length wc (bs b) x ∧ Own x w2.heap.size a3 1 (b.length + (encI n).length) c3 (bs (b ++ encI n))) (.inl (by kernel_rfl)) hS2 ?_
    clear hK K
    refine wpE_look 3 rfl rfl (by kernel_rfl) (by kernel_rfl) (by kernel_rfl) (by kernel_rfl) (fun _ _ _ h => h) hS2 (by rfl) (fun w hS => yields_string (by exact Try.underlying24) (by exact Try.underlying5) (by exact Try.underlying9) rfl rfl rfl hS.2.rd) ?_
    simp only [Act.put, List.setIfInBounds_toArray, List.set_cons_zero, List.set_cons_succ]
    refine wpE_exec 6 rfl (by kernel_rfl) (by rfl) ?_
    intro K hK
    go_simp
    refine (rint_any _ w1.heap.size wa wc b.length (bs b) n hS2.1.own hS2.1.le hb' Hn.out).mono ?_
    rintro e w4 ⟨a4, c4, rfl, ha⟩
    have hg := hS2.1.app ha
    have ho := hS2.1.keep ha hS2.2 (Nat.le_refl _)
    have hp := ha.own
    rw [← bs_append] at hp
    have hS6 := And.intro (And.intro hg ho) hp.rd
    refine hK _ _ (fun x => (Grows w1 w2.heap.size 1 wa b.length wc (bs b) x ∧ Own x w2.heap.size a3 1 (b.length + (encI n).length) c3 (bs (b ++ encI n))) ∧ Rd x a4 (bs (b ++ encI n))) (.inr (fun x h => h.1)) hS6 ?_
    clear hK K
    refine wpE_look 7 rfl rfl (by kernel_rfl) (by kernel_rfl) (by kernel_rfl) (by kernel_rfl) (fun _ _ _ h => h) hS6 (by rfl) (fun w hS => yields_string (by exact Try.underlying24) (by exact Try.underlying5) (by exact Try.underlying9) rfl rfl List.length_append.symm hS.2) ?_
    simp only [Act.put, List.setIfInBounds_toArray, List.set_cons_zero, List.set_cons_succ]
    refine wpE_take 8 (v := ?_) rfl (by kernel_rfl) (by kernel_rfl) (by kernel_rfl) (fun _ _ _ h => h) hS6 (by rfl) ?_ ?_
    rotate_left
    · (intro wq; go_simp; try with_reducible rfl)
    simp only [Act.put, List.setIfInBounds_toArray, List.set_cons_zero, List.set_cons_succ]
    refine wpE_take 9 (v := ?_) rfl (by kernel_rfl) (by kernel_rfl) (by kernel_rfl) (fun _ _ _ h => h) hS6 (by rfl) ?_ ?_
    rotate_left
    · (intro wq; go_simp; try with_reducible rfl)
    simp only [Act.put, List.setIfInBounds_toArray, List.set_cons_zero, List.set_cons_succ]
    refine wpE_take 10 (v := ?_) rfl (by kernel_rfl) (by kernel_rfl) (by kernel_rfl) (fun _ _ _ h => h) hS6 (by rfl) ?_ ?_
    rotate_left
    · (intro wq; go_simp; try with_reducible rfl)
    simp only [Act.put, List.setIfInBounds_toArray, List.set_cons_zero, List.set_cons_succ]
    refine wpE_take 11 (v := ?_) rfl (by kernel_rfl) (by kernel_rfl) (by kernel_rfl) (fun _ _ _ h => h) hS6 (by rfl) ?_ ?_
    rotate_left
    · (intro wq; go_simp; try with_reducible rfl)
    simp only [Act.put, List.setIfInBounds_toArray, List.set_cons_zero, List.set_cons_succ]
    refine wpE_take 14 (v := ?_) rfl (by kernel_rfl) (by kernel_rfl) (by kernel_rfl) (fun _ _ _ h => h) hS6 (by rfl) ?_ ?_
    rotate_left
    · (intro wq; go_simp; try with_reducible rfl)
    simp only [Act.put, List.setIfInBounds_toArray, List.set_cons_zero, List.set_cons_succ]
    refine wpE_take 15 (v := ?_) rfl (by kernel_rfl) (by kernel_rfl) (by kernel_rfl) (fun _ _ _ h => h) hS6 (by rfl) ?_ ?_
    rotate_left
    · (intro wq; go_simp; try with_reducible rfl)
    simp only [Act.put, List.setIfInBounds_toArray, List.set_cons_zero, List.set_cons_succ]
    refine wpE_exec 12 rfl (by kernel_rfl) (by rfl) ?_
    intro K hK
    go_simp
    refine (text_any _ a c b t (hra.below hS6.1.1.below) hb2' ht').mono ?_
    rintro e w5 ⟨a5, c5, rfl, ho, hx⟩
    have hg := hS6.1.1.no hx
    rw [List.length_append] at ho
    have ho := ho.mono hS6.1.1.size
    have hS12 := And.intro hg ho
    refine hK _ _ (fun x => Grows w1 w2.heap.size 1 wa b.length wc (bs b) x ∧ Own x w2.heap.size a5 1 (b.length + (encT t).length) c5 (bs (b ++ encT t))) (.inl (by kernel_rfl)) hS12 ?_
    clear hK K
    refine wpE_look 13 rfl rfl (by kernel_rfl) (by kernel_rfl) (by kernel_rfl) (by kernel_rfl) (fun _ _ _ h => h) hS12 (by rfl) (fun w hS => yields_string (by exact Try.underlying24) (by exact Try.underlying5) (by exact Try.underlying9) rfl rfl rfl hS.2.rd) ?_
    simp only [Act.put, List.setIfInBounds_toArray, List.set_cons_zero, List.set_cons_succ]
    refine wpE_exec 16 rfl (by kernel_rfl) (by rfl) ?_
    intro K hK
    go_simp
    refine (rtext_any _ w1.heap.size wa wc b.length (bs b) t hS12.1.own hS12.1.le hb2' ht').mono ?_
    rintro e w6 ⟨a6, c6, rfl, ha⟩
    have hg := hS12.1.app ha
    have ho := hS12.1.keep ha hS12.2 (Nat.le_refl _)
    have hp := ha.own
    rw [← bs_append] at hp
    have hS16 := And.intro (And.intro hg ho) hp.rd
    refine hK _ _ (fun x => (Grows w1 w2.heap.size 1 wa b.length wc (bs b) x ∧ Own x w2.heap.size a5 1 (b.length + (encT t).length) c5 (bs (b ++ encT t))) ∧ Rd x a6 (bs (b ++ encT t))) (.inr (fun x h => h.1)) hS16 ?_
    clear hK K
    refine wpE_look 17 rfl rfl (by kernel_rfl) (by kernel_rfl) (by kernel_rfl) (by kernel_rfl) (fun _ _ _ h => h) hS16 (by rfl) (fun w hS => yields_string (by exact Try.underlying24) (by exact Try.underlying5) (by exact Try.underlying9) rfl rfl List.length_append.symm hS.2) ?_
    simp only [Act.put, List.setIfInBounds_toArray, List.set_cons_zero, List.set_cons_succ]
    refine wpE_take 18 (v := ?_) rfl (by kernel_rfl) (by kernel_rfl) (by kernel_rfl) (fun _ _ _ h => h) hS16 (by rfl) ?_ ?_
    rotate_left
    · (intro wq; go_simp; try with_reducible rfl)
    simp only [Act.put, List.setIfInBounds_toArray, List.set_cons_zero, List.set_cons_succ]
    refine wpE_take 19 (v := ?_) rfl (by kernel_rfl) (by kernel_rfl) (by kernel_rfl) (fun _ _ _ h => h) hS16 (by rfl) ?_ ?_
    rotate_left
    · (intro wq; go_simp; try with_reducible rfl)
    simp only [Act.put, List.setIfInBounds_toArray, List.set_cons_zero, List.set_cons_succ]
    refine wpE_take 20 (v := ?_) rfl (by kernel_rfl) (by kernel_rfl) (by kernel_rfl) (fun _ _ _ h => h) hS16 (by rfl) ?_ ?_
    rotate_left
    · (intro wq; go_simp; try with_reducible rfl)
    simp only [Act.put, List.setIfInBounds_toArray, List.set_cons_zero, List.set_cons_succ]
    refine wpE_take 21 (v := ?_) rfl (by kernel_rfl) (by kernel_rfl) (by kernel_rfl) (fun _ _ _ h => h) hS16 (by rfl) ?_ ?_
    rotate_left
    · (intro wq; go_simp; try with_reducible rfl)
    simp only [Act.put, List.setIfInBounds_toArray, List.set_cons_zero, List.set_cons_succ]
    refine wpE_take 22 (v := ?_) rfl (by kernel_rfl) (by kernel_rfl) (by kernel_rfl) (fun _ _ _ h => h) hS16 (by rfl) ?_ ?_
    rotate_left
    · (intro wq; go_simp; try with_reducible rfl)
    simp only [Act.put, List.setIfInBounds_toArray, List.set_cons_zero, List.set_cons_succ]
    refine wpE_take 25 (v := ?_) rfl (by kernel_rfl) (by kernel_rfl) (by kernel_rfl) (fun _ _ _ h => h) hS16 (by rfl) ?_ ?_
    rotate_left
    · (intro wq; go_simp; try with_reducible rfl)
    simp only [Act.put, List.setIfInBounds_toArray, List.set_cons_zero, List.set_cons_succ]
    refine wpE_take 26 (v := ?_) rfl (by kernel_rfl) (by kernel_rfl) (by kernel_rfl) (fun _ _ _ h => h) hS16 (by rfl) ?_ ?_
    rotate_left
    · (intro wq; go_simp; try with_reducible rfl)
    simp only [Act.put, List.setIfInBounds_toArray, List.set_cons_zero, List.set_cons_succ]
    refine wpE_exec 23 rfl (by kernel_rfl) (by rfl) ?_
    intro K hK
    go_simp
    refine (ints_any _ a la c lc b l (hra.below hS16.1.1.below) hb2' (hla.below hS16.1.1.below) hl' Hnl.out).mono ?_
    rintro e w7 ⟨a7, c7, rfl, ho, hx⟩
    have hg := hS16.1.1.no hx
    rw [List.length_append] at ho
    have ho := ho.mono hS16.1.1.size
    have hS23 := And.intro hg ho
    refine hK _ _ (fun x => Grows w1 w2.heap.size 1 wa b.length wc (bs b) x ∧ Own x w2.heap.size a7 1 (b.length + (encL l).length) c7 (bs (b ++ encL l))) (.inl (by kernel_rfl)) hS23 ?_
    clear hK K
    refine wpE_look 24 rfl rfl (by kernel_rfl) (by kernel_rfl) (by kernel_rfl) (by kernel_rfl) (fun _ _ _ h => h) hS23 (by rfl) (fun w hS => yields_string (by exact Try.underlying24) (by exact Try.underlying5) (by exact Try.underlying9) rfl rfl rfl hS.2.rd) ?_
    simp only [Act.put, List.setIfInBounds_toArray, List.set_cons_zero, List.set_cons_succ]
    refine wpE_exec 27 rfl (by kernel_rfl) (by rfl) ?_
    intro K hK
    go_simp
    refine (rints_any _ w1.heap.size wa la wc lc b.length (bs b) l hS23.1.own hS23.1.le hb2' (hla.below hS23.1.below) hapart hl' Hnl.out).mono ?_
    rintro e w8 ⟨a8, c8, rfl, ha⟩
    have hg := hS23.1.app ha
    have ho := hS23.1.keep ha hS23.2 (Nat.le_refl _)
    have hp := ha.own
    rw [← bs_append] at hp
    have hS27 := And.intro (And.intro hg ho) hp.rd
    refine hK _ _ (fun x => (Grows w1 w2.heap.size 1 wa b.length wc (bs b) x ∧ Own x w2.heap.size a7 1 (b.length + (encL l).length) c7 (bs (b ++ encL l))) ∧ Rd x a8 (bs (b ++ encL l))) (.inr (fun x h => h.1)) hS27 ?_
    clear hK K
    refine wpE_look 28 rfl rfl (by kernel_rfl) (by kernel_rfl) (by kernel_rfl) (by kernel_rfl) (fun _ _ _ h => h) hS27 (by rfl) (fun w hS => yields_string (by exact Try.underlying24) (by exact Try.underlying5) (by exact Try.underlying9) rfl rfl List.length_append.symm hS.2) ?_
    simp only [Act.put, List.setIfInBounds_toArray, List.set_cons_zero, List.set_cons_succ]
    refine wpE_take 29 (v := ?_) rfl (by kernel_rfl) (by kernel_rfl) (by kernel_rfl) (fun _ _ _ h => h) hS27 (by rfl) ?_ ?_
    rotate_left
    · (intro wq; go_simp; try with_reducible rfl)
    simp only [Act.put, List.setIfInBounds_toArray, List.set_cons_zero, List.set_cons_succ]
    refine wpE_take 30 (v := ?_) rfl (by kernel_rfl) (by kernel_rfl) (by kernel_rfl) (fun _ _ _ h => h) hS27 (by rfl) ?_ ?_
    rotate_left
    · (intro wq; go_simp; try with_reducible rfl)
    simp only [Act.put, List.setIfInBounds_toArray, List.set_cons_zero, List.set_cons_succ]
    refine wpE_take 31 (v := ?_) rfl (by kernel_rfl) (by kernel_rfl) (by kernel_rfl) (fun _ _ _ h => h) hS27 (by rfl) ?_ ?_
    rotate_left
    · (intro wq; go_simp; try with_reducible rfl)
    simp only [Act.put, List.setIfInBounds_toArray, List.set_cons_zero, List.set_cons_succ]
    refine wpE_done (by kernel_rfl) ?_ _
    go_wp2_with fail
    go_meet
    exact ⟨rfl, hS27.1.1.below⟩
  case rest =>
    obtain ⟨rfl, hb⟩ := hcut
    go_wp2_with fail
    go_ret
    exact ⟨rfl, hext1.comp (Ext.ofBelow hb (Nat.le_refl _))⟩
end Go.Proofs.Ytnplelcnigpemaa
