/- The walk of the law DiskPlays. -/
import Derived.Test.YtfihjjbonahahaaDkP
import Derived.Deep.CutBlock
import Derived.Test.YtfihjjbonahahaaRkB
import Derived.Test.YtfihjjbonahahaaRkC
import Derived.Test.YtfihjjbonahahaaOpen
namespace Go.Proofs.Ytfihjjbonahahaa
open Go.RowKit Go.Esc
set_option linter.unusedVariables false

theorem calls_pos : ∀ {cl : List CallR}, 0 < cl.length → 0 < (cl.flatMap CallR.cells).length
  | [], h => absurd h (by simp)
  | c :: cl, _ => by rw [List.flatMap_cons, List.length_append]; simp only [CallR.cells, List.length_cons]; omega
theorem calls_cell {w : World} {b o : Nat} : ∀ {cl : List CallR} {k : Nat} {r : CallR}, Rd w (some ⟨b, o, none⟩) (cl.flatMap CallR.cells) → cl[k]? = some r → ∀ m v, r.cells[m]? = some v → w.cell? ⟨b, o + k * 3 + m, none⟩ = some v := by
  intro cl k r h hr m v hm
  have hm3 : m < 3 := (List.getElem?_eq_some_iff.1 hm).1
  obtain ⟨ad, hs, hc⟩ := h (k * 3 + m) v (by
    clear h
    induction cl generalizing k with
    | nil => simp at hr
    | cons c cl ih =>
      rw [List.flatMap_cons]
      cases k with
      | zero =>
        simp at hr
        subst hr
        rw [List.getElem?_append_left (by simp [CallR.cells]; omega), Nat.zero_mul, Nat.zero_add]
        exact hm
      | succ k =>
        rw [List.getElem?_append_right (by simp [CallR.cells]; omega), show (k + 1) * 3 + m - c.cells.length = k * 3 + m by simp [CallR.cells]; omega]
        exact ih (by simpa using hr))
  cases hs
  rw [Addr.add_lit] at hc
  rw [Nat.add_assoc]
  exact hc

set_option maxRecDepth 100000 in
set_option maxHeartbeats 8000000 in
theorem plays_walk (w : World) (room : Int) (ca : Option Addr) (cl : List CallR) (cc : Nat) (hroom : I64ok room) (hcd : Rd w ca (cl.flatMap CallR.cells)) (hcg : ∀ r ∈ cl, r.good w) (hcl : cl.length ≤ cc) (hcc : cc ≤ maxLen) :
    Calls Try.prog 12 #[.int .i64 room, .slice ca cl.length cc] w fun e w' => e = .returned (.bool true) ∧ Ext no w w' := by
  unfold maxLen at hcc
  by_cases hbad : room < 1 ∨ 16777216 < room
  · go_enter Try.func12, Try.ntmps12
    go_wp2_with fail
    refine (known_any w).mono ?_
    rintro e w1 ⟨rfl, hx1⟩
    go_wp2_with fail
    refine (new_bad w1 room hbad).mono ?_
    rintro e w2 ⟨rfl, rfl⟩
    go_wp2_with fail
    refine (refnew_bad w1 room hbad).mono ?_
    rintro e w2 ⟨rfl, rfl⟩
    go_wp2_with fail
    go_loopw [9] (fun s9 wr => s9 = .int .i64 0 ∧ wr = w1) (fun _ _ => 0)
    case atStart => exact ⟨rfl, rfl⟩
    case round =>
      obtain ⟨rfl, rfl⟩ := hrel
      go_wp2_with fail
      go_ret
      exact ⟨rfl, hx1⟩
  obtain ⟨R, rfl⟩ : ∃ R : Nat, room = (R : Int) := ⟨room.toNat, by omega⟩
  have hR1 : 1 ≤ R := by omega
  have hR2 : R ≤ 16777216 := by omega
  clear hbad hroom
  go_enter Try.func12, Try.ntmps12
  go_wp2_with fail
  refine (known_any w).mono ?_
  rintro e w1 ⟨rfl, hx1⟩
  go_wp2_with fail
  refine (newdisk_any w1 R hR1 hR2 no).mono ?_
  rintro e w2 ⟨g, rfl, hD2, hg, hx2⟩
  have hx02 := hx1.comp hx2
  have hgw : w.heap.size ≤ g := Nat.le_trans hx1.size hg
  go_wp2_with fail
  refine (refnew_any w2 R hR1 hR2 (just g)).mono ?_
  rintro e w3 ⟨x, rfl, hR3, hx, hx3⟩
  have hgx : g < x := Nat.lt_of_lt_of_le hD2.lt hx
  have hD3 := (hD2.no hx3)
  have hx03 := hx02.comp hx3
  have hD3' : Dk w3 g (DS.new R) (just x) := (hD2.fewer (N' := just x) (fun k hk h => by simp only [Esc.just] at h; omega)).no hx3
  have hok0 := DS.new_ok R hR2
  have hdone0 : (DS.new R).done ≤ 0 := Nat.le_refl _
  generalize DS.new R = s0 at *
  clear hD2 hx1 hx2 hx3 hx02 hD3
  go_wp2_with fail
  go_loopw [9] (fun s9 wr => ∃ (k : Nat) (s : DS), k ≤ cl.length ∧ k ≤ 100 ∧ s9 = .int .i64 k ∧ Dk wr g s (just x) ∧ Rk wr x s (just g) ∧ s.ok ∧ s.done ≤ k ∧ Ext no w wr) (fun s9 _ => cl.length - (intOf s9).toNat)
  case atStart => exact ⟨0, s0, Nat.zero_le _, by omega, rfl, hD3', hR3, hok0, hdone0, hx03⟩
  case round =>
    clear hD3' hR3 hok0 hdone0 hx03
    obtain ⟨k, s, hk, hk100, rfl, hDk, hRk, hok, hdn, hxr⟩ := hrel
    by_cases hgo : k < cl.length ∧ k < 100
    rotate_left
    · by_cases hlt : k < cl.length
      · have dd : decide (k < cl.length) = true := decT (by omega)
        have dd2 : decide ((k : Int) < 100) = false := decF (by omega)
        go_wp2_with fail
        go_ret
        exact ⟨rfl, hxr⟩
      · have dd : decide (k < cl.length) = false := decF (by omega)
        go_wp2_with fail
        go_ret
        exact ⟨rfl, hxr⟩
    obtain ⟨hk1, hk2⟩ := hgo
    have dd : decide (k < cl.length) = true := decT (by omega)
    have dd2 : decide ((k : Int) < 100) = true := decT (by omega)
    obtain ⟨r, hr⟩ : ∃ r, cl[k]? = some r := ⟨_, List.getElem?_eq_getElem hk1⟩
    have hrg := hcg r (List.mem_of_getElem? hr)
    have hcr := hcd.ext hxr (fun _ _ h => h)
    have hpos := calls_pos (show 0 < cl.length by omega)
    obtain ⟨ab, ao, rfl, hadlt⟩ := hcr.shape hpos
    have hq := fun m v hm => (calls_cell hcr hr m v hm)
    have q0 : wr.cell? ⟨ab, ao + k * 3, none⟩ = some (.int .i64 r.kind) := hq 0 _ rfl
    have q1 : wr.cell? ⟨ab, ao + k * 3 + 1, none⟩ = some (.int .i64 r.n) := hq 1 _ rfl
    have q2 : wr.cell? ⟨ab, ao + k * 3 + 2, none⟩ = some (.slice r.a r.b.length r.c) := hq 2 _ rfl
    clear hq
    go_upto_region 11 with fail
    obtain ⟨w1, hw1⟩ : ∃ w1, w1 = wr.alloc (.cells #[.int .i64 r.kind, .int .i64 r.n, .slice r.a r.b.length r.c] 67) := ⟨_, rfl⟩
    have hblk := Blk.lit wr #[.int .i64 r.kind, .int .i64 r.n, .slice r.a r.b.length r.c] 67
    have hx1 := Ext.alloc no wr (.cells #[.int .i64 r.kind, .int .i64 r.n, .slice r.a r.b.length r.c] 67)
    have hcb1 : wr.heap.size < w1.heap.size := by rw [hw1]; simp
    rw [← hw1] at hblk hx1 ⊢
    have hDk1 := hDk.no hx1
    have hRk1 := hRk.no hx1
    have hx01 := hxr.comp hx1
    have hgc : g < wr.heap.size := hDk.lt
    have hxc : x < wr.heap.size := hRk.lt
    have hwc : w.heap.size ≤ wr.heap.size := hxr.size
    clear hDk hRk hxr hx1 hw1 q0 q1 q2 hadlt hpos hcr
    generalize wr.heap.size = cb at *
    have b0 : w1.cell? ⟨cb, 0, none⟩ = some (.int .i64 r.kind) := hblk.cell 0 _ rfl
    have b1 : w1.cell? ⟨cb, 1, none⟩ = some (.int .i64 r.n) := hblk.cell 1 _ rfl
    have b2 : w1.cell? ⟨cb, 2, none⟩ = some (.slice r.a r.b.length r.c) := hblk.cell 2 _ rfl
    obtain ⟨hrk, hrn, hrd, hrl, hrc⟩ := hrg
    by_cases hbig : 500 < r.b.length
    · have db : decide ((500 : Int) < r.b.length) = true := decT (by omega)
      go_wp2_with fail
      go_roundw
      case rel => exact ⟨k + 1, s, by omega, by omega, by go_num, hDk1, hRk1, hok, by omega, hx01⟩
      case measure => simp [intOf]; omega
    have db : decide ((500 : Int) < r.b.length) = false := decF (by omega)
    have hxa := Ext.alloc no w1 (.cells #[] 5)
    have e2 := hxa.keeps b2 (fun h => h)
    have hrd1 := hrd.ext hx01 (fun _ _ h => h)
    go_wp2_with (at_builtin; refine wpList_append TBytes rfl rfl rfl (emptied w1 5) rfl (hrd1.ext hxa (fun _ _ h => h)) (by simp) (bs_one _) (by unfold maxLen; omega) (by omega) (by simp) ?_)
    intro a3 c3 w2 hA
    obtain ⟨hown2, hx2⟩ := copied hA
    clear hA e2 hxa
    have hblk2 := hblk.ext (by simp) hx2 (fun h => h)
    have hDk2 : Dk w2 g s (just x) := hDk1.no hx2
    have hRk2 : Rk w2 x s (just g) := hRk1.no hx2
    have hx02 := hx01.comp hx2
    have hw12 := hx2.size
    clear hblk b0 b1 b2 hx01 hrd1
    have b0 : w2.cell? ⟨cb, 0, none⟩ = some (.int .i64 r.kind) := hblk2.cell 0 _ rfl
    have b1 : w2.cell? ⟨cb, 1, none⟩ = some (.int .i64 r.n) := hblk2.cell 1 _ rfl
    have b2 : w2.cell? ⟨cb, 2, none⟩ = some (.slice r.a r.b.length r.c) := hblk2.cell 2 _ rfl
    obtain ⟨Nm, hNm⟩ : ∃ Nm : Nat → Prop, Nm = fun b => ∃ ad, a3 = some ad ∧ ad.block = b := ⟨_, rfl⟩
    have hNlo : ∀ b, Nm b → w1.heap.size ≤ b := fun b hb => by rw [hNm] at hb; obtain ⟨ad, ha, hb⟩ := hb; have := (hown2.base ad ha).1; omega
    have hD0 : Dk w2 g s (fun b => b = x ∨ Nm b) := (hDk1.fewer (fun b hb h => by rcases h with h | h; exact h; have := hNlo b h; omega)).no hx2
    have hR0 : Rk w2 x s (fun b => b = g ∨ Nm b) := (hRk1.fewer (fun b hb h => by rcases h with h | h; exact h; have := hNlo b h; omega)).no hx2
    go_upto_block 2 with fail
    refine (within_any r.kind 7 w2 (by omega) (by omega) hrk).mono ?_
    rintro e w3 ⟨rfl, rfl⟩
    have hq : r.kind % 7 = 0 ∨ r.kind % 7 = 1 ∨ r.kind % 7 = 2 ∨ r.kind % 7 = 3 ∨ r.kind % 7 = 4 ∨ r.kind % 7 = 5 ∨ r.kind % 7 = 6 := by omega
    generalize r.kind % 7 = q at *
    go_upto_block 2 with fail
    go_cut [12, 13, 65] (fun s12 s13 s65 wx => ∃ (S : DS) (e : Nat), s12 = .int .i64 e ∧ s13 = .int .i64 e ∧ Dk wx g S (fun b => b = x ∨ Nm b) ∧ Rk wx x S (fun b => b = g ∨ Nm b) ∧ S.ok ∧ S.done ≤ k + 1 ∧ Own wx w1.heap.size a3 1 r.b.length c3 (bs r.b) ∧ Ext no w wx)
    case first =>
      --<S
      have hd0 := Ext.drew no w2
      have hS0 := And.intro (hd0.keeps b1 (fun h => h)) (hd0.keeps b2 (fun h => h))
      have hcg2 : ¬ just g cb := by simp only [Esc.just]; omega
      have hcx2 : ¬ just x cb := by simp only [Esc.just]; omega
      have hDd := hD0.no hd0
      have hRd := hR0.no hd0
      have hod := hown2.drew
      have hxd := hx02.comp hd0
      have hNg : ∀ k, (k = x ∨ Nm k) → k < w2.drew.heap.size := fun b hb => by
        show b < w2.heap.size
        rcases hb with rfl | hb
        · omega
        · rw [hNm] at hb; obtain ⟨ad, ha, rfl⟩ := hb; exact (hown2.base ad ha).2.1
      have hNx : ∀ w4 : World, w2.heap.size ≤ w4.heap.size → ∀ k, (k = g ∨ Nm k) → k < w4.heap.size := fun w4 h4 b hb => by
        rcases hb with rfl | hb
        · omega
        · rw [hNm] at hb; obtain ⟨ad, ha, rfl⟩ := hb; have := (hown2.base ad ha).2.1; omega
      have hbg : r.b ≠ [] → ∀ ad, a3 = some ad → ad.block ≠ g := fun _ ad ha => by have := (hown2.base ad ha).1; omega
      have hbx : r.b ≠ [] → ∀ ad, r.a = some ad → ad.block ≠ x := fun hne ad ha => by
        obtain ⟨ad2, ha2, hlt⟩ := hrd.ne (by rw [bs_length]; exact List.length_pos_iff.2 hne)
        rw [ha] at ha2; cases ha2; omega
      rcases hq with hq | hq | hq | hq | hq | hq | hq <;> rw [hq]
      · go_upto_region 17 with fail
        refine wp_region_E [5] (fun x => (x.cell? ⟨cb, 1, none⟩ = some (.int .i64 r.n) ∧ x.cell? ⟨cb, 2, none⟩ = some (.slice r.a r.b.length r.c))) (by kernel_rfl) ?_
        refine wpE_take 0 (v := ?_) rfl (by kernel_rfl) (by kernel_rfl) (by kernel_rfl) (fun _ _ _ h => h) hS0 (by rfl) ?_ ?_
        rotate_left
        · (intro wq; go_simp; try with_reducible rfl)
        simp only [Act.put, List.setIfInBounds_toArray, List.set_cons_zero, List.set_cons_succ]
        refine wpE_take 1 (v := ?_) rfl (by kernel_rfl) (by kernel_rfl) (by kernel_rfl) (fun _ _ _ h => h) hS0 (by rfl) ?_ ?_
        rotate_left
        · (intro wq; go_simp; try with_reducible rfl)
        simp only [Act.put, List.setIfInBounds_toArray, List.set_cons_zero, List.set_cons_succ]
        refine wpE_take 3 (v := ?_) rfl (by kernel_rfl) (by kernel_rfl) (by kernel_rfl) (fun _ _ _ h => h) hS0 (by rfl) ?_ ?_
        rotate_left
        · (intro wq; go_simp; try with_reducible rfl)
        simp only [Act.put, List.setIfInBounds_toArray, List.set_cons_zero, List.set_cons_succ]
        refine wpE_take 4 (v := ?_) rfl (by kernel_rfl) (by kernel_rfl) (by kernel_rfl) (fun _ _ _ h => h) hS0 (by rfl) ?_ ?_
        rotate_left
        · (intro wq; go_simp; try with_reducible rfl)
        simp only [Act.put, List.setIfInBounds_toArray, List.set_cons_zero, List.set_cons_succ]
        refine wpE_look 5 (v := .slice r.a r.b.length r.c) rfl rfl (by kernel_rfl) (by kernel_rfl) (by kernel_rfl) (by kernel_rfl) (fun _ _ _ h => h) hS0 (by rfl) (fun w hS => by have q := hS.2; go_simp) ?_
        simp only [Act.put, List.setIfInBounds_toArray, List.set_cons_zero, List.set_cons_succ]
        refine wpE_exec 2 rfl (by kernel_rfl) (by rfl) ?_
        intro K hK
        go_simp
        refine (append_any w2.drew g s _ hDd hNg hok a3 c3 r.b hod.rd hbg (by omega)).mono ?_
        rintro e w4 ⟨rfl, hD4, hx4⟩
        have hR4 := hRd.ext hx4 (by simp only [Esc.just]; omega) (fun i _ h => .inl h)
        have ho4 := hod.ext hx4 (fun ad h e => by have := (hod.base ad h).1; simp only [Esc.just] at e; omega)
        have hx04 := hxd.trans hx4 (fun i hi h => by simp only [Esc.just] at h; omega)
        have h4 : w2.heap.size ≤ w4.heap.size := hx4.size
        have hS1 := And.intro (hx4.keeps hS0.1 hcg2) (hx4.keeps hS0.2 hcg2)
        refine hK _ _ (fun x => (x.cell? ⟨cb, 1, none⟩ = some (.int .i64 r.n) ∧ x.cell? ⟨cb, 2, none⟩ = some (.slice r.a r.b.length r.c))) (.inr (fun x h => h)) hS1 ?_
        clear hK K
        refine wpE_exec 6 rfl (by kernel_rfl) (by rfl) ?_
        intro K hK
        go_simp
        refine (refappend_any w4 x s _ hR4 (hNx w4 h4) hok r.a r.c r.b (hrd.ext hx04 (fun _ _ h => h)) hbx (by omega)).mono ?_
        rintro e w5 ⟨rfl, hR5, hx5⟩
        have hD5 := hD4.ext hx5 (by simp only [Esc.just]; omega) (fun i _ h => .inl h)
        have ho5 := ho4.ext hx5 (fun ad h e => by have := (hod.base ad h).1; simp only [Esc.just] at e; omega)
        have hx05 := hx04.trans hx5 (fun i hi h => by simp only [Esc.just] at h; omega)
        have hS2 := And.intro (hx5.keeps hS1.1 hcx2) (hx5.keeps hS1.2 hcx2)
        refine hK _ _ (fun x => (x.cell? ⟨cb, 1, none⟩ = some (.int .i64 r.n) ∧ x.cell? ⟨cb, 2, none⟩ = some (.slice r.a r.b.length r.c))) (.inr (fun x h => h)) hS2 ?_
        clear hK K
        refine wpE_take 7 (v := ?_) rfl (by kernel_rfl) (by kernel_rfl) (by kernel_rfl) (fun _ _ _ h => h) hS2 (by rfl) ?_ ?_
        rotate_left
        · (intro wq; go_simp; try with_reducible rfl)
        simp only [Act.put, List.setIfInBounds_toArray, List.set_cons_zero, List.set_cons_succ]
        refine wpE_take 8 (v := ?_) rfl (by kernel_rfl) (by kernel_rfl) (by kernel_rfl) (fun _ _ _ h => h) hS2 (by rfl) ?_ ?_
        rotate_left
        · (intro wq; go_simp; try with_reducible rfl)
        simp only [Act.put, List.setIfInBounds_toArray, List.set_cons_zero, List.set_cons_succ]
        refine wpE_done (by kernel_rfl) ?_ _
        go_wp2_with fail
        go_meet
        exact ⟨_, _, rfl, rfl, hD5, hR5, (DS.ok_append hok (by omega) r.b).1, Nat.le_trans (DS.ok_append hok (by omega) r.b).2 (by omega), ho5, hx05⟩
      · go_upto_region 17 with fail
        refine wp_region_E [5] (fun x => (x.cell? ⟨cb, 1, none⟩ = some (.int .i64 r.n) ∧ x.cell? ⟨cb, 2, none⟩ = some (.slice r.a r.b.length r.c))) (by kernel_rfl) ?_
        refine wpE_take 0 (v := ?_) rfl (by kernel_rfl) (by kernel_rfl) (by kernel_rfl) (fun _ _ _ h => h) hS0 (by rfl) ?_ ?_
        rotate_left
        · (intro wq; go_simp; try with_reducible rfl)
        simp only [Act.put, List.setIfInBounds_toArray, List.set_cons_zero, List.set_cons_succ]
        refine wpE_take 1 (v := ?_) rfl (by kernel_rfl) (by kernel_rfl) (by kernel_rfl) (fun _ _ _ h => h) hS0 (by rfl) ?_ ?_
        rotate_left
        · (intro wq; go_simp; try with_reducible rfl)
        simp only [Act.put, List.setIfInBounds_toArray, List.set_cons_zero, List.set_cons_succ]
        refine wpE_take 3 (v := ?_) rfl (by kernel_rfl) (by kernel_rfl) (by kernel_rfl) (fun _ _ _ h => h) hS0 (by rfl) ?_ ?_
        rotate_left
        · (intro wq; go_simp; try with_reducible rfl)
        simp only [Act.put, List.setIfInBounds_toArray, List.set_cons_zero, List.set_cons_succ]
        refine wpE_take 4 (v := ?_) rfl (by kernel_rfl) (by kernel_rfl) (by kernel_rfl) (fun _ _ _ h => h) hS0 (by rfl) ?_ ?_
        rotate_left
        · (intro wq; go_simp; try with_reducible rfl)
        simp only [Act.put, List.setIfInBounds_toArray, List.set_cons_zero, List.set_cons_succ]
        refine wpE_look 5 (v := .slice r.a r.b.length r.c) rfl rfl (by kernel_rfl) (by kernel_rfl) (by kernel_rfl) (by kernel_rfl) (fun _ _ _ h => h) hS0 (by rfl) (fun w hS => by have q := hS.2; go_simp) ?_
        simp only [Act.put, List.setIfInBounds_toArray, List.set_cons_zero, List.set_cons_succ]
        refine wpE_exec 2 rfl (by kernel_rfl) (by rfl) ?_
        intro K hK
        go_simp
        refine (append_any w2.drew g s _ hDd hNg hok a3 c3 r.b hod.rd hbg (by omega)).mono ?_
        rintro e w4 ⟨rfl, hD4, hx4⟩
        have hR4 := hRd.ext hx4 (by simp only [Esc.just]; omega) (fun i _ h => .inl h)
        have ho4 := hod.ext hx4 (fun ad h e => by have := (hod.base ad h).1; simp only [Esc.just] at e; omega)
        have hx04 := hxd.trans hx4 (fun i hi h => by simp only [Esc.just] at h; omega)
        have h4 : w2.heap.size ≤ w4.heap.size := hx4.size
        have hS1 := And.intro (hx4.keeps hS0.1 hcg2) (hx4.keeps hS0.2 hcg2)
        refine hK _ _ (fun x => (x.cell? ⟨cb, 1, none⟩ = some (.int .i64 r.n) ∧ x.cell? ⟨cb, 2, none⟩ = some (.slice r.a r.b.length r.c))) (.inr (fun x h => h)) hS1 ?_
        clear hK K
        refine wpE_exec 6 rfl (by kernel_rfl) (by rfl) ?_
        intro K hK
        go_simp
        refine (refappend_any w4 x s _ hR4 (hNx w4 h4) hok r.a r.c r.b (hrd.ext hx04 (fun _ _ h => h)) hbx (by omega)).mono ?_
        rintro e w5 ⟨rfl, hR5, hx5⟩
        have hD5 := hD4.ext hx5 (by simp only [Esc.just]; omega) (fun i _ h => .inl h)
        have ho5 := ho4.ext hx5 (fun ad h e => by have := (hod.base ad h).1; simp only [Esc.just] at e; omega)
        have hx05 := hx04.trans hx5 (fun i hi h => by simp only [Esc.just] at h; omega)
        have hS2 := And.intro (hx5.keeps hS1.1 hcx2) (hx5.keeps hS1.2 hcx2)
        refine hK _ _ (fun x => (x.cell? ⟨cb, 1, none⟩ = some (.int .i64 r.n) ∧ x.cell? ⟨cb, 2, none⟩ = some (.slice r.a r.b.length r.c))) (.inr (fun x h => h)) hS2 ?_
        clear hK K
        refine wpE_take 7 (v := ?_) rfl (by kernel_rfl) (by kernel_rfl) (by kernel_rfl) (fun _ _ _ h => h) hS2 (by rfl) ?_ ?_
        rotate_left
        · (intro wq; go_simp; try with_reducible rfl)
        simp only [Act.put, List.setIfInBounds_toArray, List.set_cons_zero, List.set_cons_succ]
        refine wpE_take 8 (v := ?_) rfl (by kernel_rfl) (by kernel_rfl) (by kernel_rfl) (fun _ _ _ h => h) hS2 (by rfl) ?_ ?_
        rotate_left
        · (intro wq; go_simp; try with_reducible rfl)
        simp only [Act.put, List.setIfInBounds_toArray, List.set_cons_zero, List.set_cons_succ]
        refine wpE_done (by kernel_rfl) ?_ _
        go_wp2_with fail
        go_meet
        exact ⟨_, _, rfl, rfl, hD5, hR5, (DS.ok_append hok (by omega) r.b).1, Nat.le_trans (DS.ok_append hok (by omega) r.b).2 (by omega), ho5, hx05⟩
      ·
        go_wp2_with fail
        refine (sync_any w2 g s _ hD0 hok).mono ?_
        rintro e w4 ⟨rfl, hD4, hx4⟩
        have hR4 := hR0.ext hx4 (by simp only [Esc.just]; omega) (fun i _ h => .inl h)
        have ho4 := hown2.ext hx4 (fun ad h e => by have := (hod.base ad h).1; simp only [Esc.just] at e; omega)
        have hx04 := hx02.trans hx4 (fun i hi h => by simp only [Esc.just] at h; omega)
        go_wp2_with fail
        refine (refsync_any w4 x s _ hR4 hok).mono ?_
        rintro e w5 ⟨rfl, hR5, hx5⟩
        have hD5 := hD4.ext hx5 (by simp only [Esc.just]; omega) (fun i _ h => .inl h)
        have ho5 := ho4.ext hx5 (fun ad h e => by have := (hod.base ad h).1; simp only [Esc.just] at e; omega)
        have hx05 := hx04.trans hx5 (fun i hi h => by simp only [Esc.just] at h; omega)
        go_wp2_with fail
        go_meet
        exact ⟨_, _, rfl, rfl, hD5, hR5, (DS.ok_sync hok (by omega)).1, Nat.le_trans (DS.ok_sync hok (by omega)).2 (by omega), ho5, hx05⟩
      · go_upto_region 21 with fail
        refine wp_region_E [4] (fun x => (x.cell? ⟨cb, 1, none⟩ = some (.int .i64 r.n) ∧ x.cell? ⟨cb, 2, none⟩ = some (.slice r.a r.b.length r.c))) (by kernel_rfl) ?_
        refine wpE_take 0 (v := ?_) rfl (by kernel_rfl) (by kernel_rfl) (by kernel_rfl) (fun _ _ _ h => h) hS0 (by rfl) ?_ ?_
        rotate_left
        · (intro wq; go_simp; try with_reducible rfl)
        simp only [Act.put, List.setIfInBounds_toArray, List.set_cons_zero, List.set_cons_succ]
        refine wpE_take 1 (v := ?_) rfl (by kernel_rfl) (by kernel_rfl) (by kernel_rfl) (fun _ _ _ h => h) hS0 (by rfl) ?_ ?_
        rotate_left
        · (intro wq; go_simp; try with_reducible rfl)
        simp only [Act.put, List.setIfInBounds_toArray, List.set_cons_zero, List.set_cons_succ]
        refine wpE_take 2 (v := ?_) rfl (by kernel_rfl) (by kernel_rfl) (by kernel_rfl) (fun _ _ _ h => h) hS0 (by rfl) ?_ ?_
        rotate_left
        · (intro wq; go_simp; try with_reducible rfl)
        simp only [Act.put, List.setIfInBounds_toArray, List.set_cons_zero, List.set_cons_succ]
        refine wpE_take 3 (v := ?_) rfl (by kernel_rfl) (by kernel_rfl) (by kernel_rfl) (fun _ _ _ h => h) hS0 (by rfl) ?_ ?_
        rotate_left
        · (intro wq; go_simp; try with_reducible rfl)
        simp only [Act.put, List.setIfInBounds_toArray, List.set_cons_zero, List.set_cons_succ]
        refine wpE_look 4 (v := .int .i64 r.n) rfl rfl (by kernel_rfl) (by kernel_rfl) (by kernel_rfl) (by kernel_rfl) (fun _ _ _ h => h) hS0 (by rfl) (fun w hS => by have q := hS.1; go_simp) ?_
        simp only [Act.put, List.setIfInBounds_toArray, List.set_cons_zero, List.set_cons_succ]
        refine wpE_exec 5 rfl (by kernel_rfl) (by rfl) ?_
        intro K hK
        go_simp
        refine (stop_any w2.drew g s _ hDd r.n hrn).mono ?_
        rintro e w4 ⟨rfl, hD4, hx4⟩
        have hR4 := hRd.ext hx4 (by simp only [Esc.just]; omega) (fun i _ h => .inl h)
        have ho4 := hod.ext hx4 (fun ad h e => by have := (hod.base ad h).1; simp only [Esc.just] at e; omega)
        have hx04 := hxd.trans hx4 (fun i hi h => by simp only [Esc.just] at h; omega)
        have hS1 := And.intro (hx4.keeps hS0.1 hcg2) (hx4.keeps hS0.2 hcg2)
        refine hK _ _ (fun x => (x.cell? ⟨cb, 1, none⟩ = some (.int .i64 r.n) ∧ x.cell? ⟨cb, 2, none⟩ = some (.slice r.a r.b.length r.c))) (.inr (fun x h => h)) hS1 ?_
        clear hK K
        refine wpE_done (by kernel_rfl) ?_ _
        have b1' := hS1.1
        go_wp2_with fail
        refine (refstop_any w4 x s _ hR4 r.n hrn).mono ?_
        rintro e w5 ⟨rfl, hR5, hx5⟩
        have hD5 := hD4.ext hx5 (by simp only [Esc.just]; omega) (fun i _ h => .inl h)
        have ho5 := ho4.ext hx5 (fun ad h e => by have := (hod.base ad h).1; simp only [Esc.just] at e; omega)
        have hx05 := hx04.trans hx5 (fun i hi h => by simp only [Esc.just] at h; omega)
        go_wp2_with fail
        go_meet
        exact ⟨_, 0, rfl, rfl, hD5, hR5, DS.ok_stop hok r.n hrn, show s.done ≤ k + 1 by omega, ho5, hx05⟩
      · go_upto_region 24 with fail
        refine wp_region_E [2, 6] (fun x => (x.cell? ⟨cb, 1, none⟩ = some (.int .i64 r.n) ∧ x.cell? ⟨cb, 2, none⟩ = some (.slice r.a r.b.length r.c))) (by kernel_rfl) ?_
        refine wpE_take 0 (v := ?_) rfl (by kernel_rfl) (by kernel_rfl) (by kernel_rfl) (fun _ _ _ h => h) hS0 (by rfl) ?_ ?_
        rotate_left
        · (intro wq; go_simp; try with_reducible rfl)
        simp only [Act.put, List.setIfInBounds_toArray, List.set_cons_zero, List.set_cons_succ]
        refine wpE_take 1 (v := ?_) rfl (by kernel_rfl) (by kernel_rfl) (by kernel_rfl) (fun _ _ _ h => h) hS0 (by rfl) ?_ ?_
        rotate_left
        · (intro wq; go_simp; try with_reducible rfl)
        simp only [Act.put, List.setIfInBounds_toArray, List.set_cons_zero, List.set_cons_succ]
        refine wpE_look 2 (v := .int .i64 r.n) rfl rfl (by kernel_rfl) (by kernel_rfl) (by kernel_rfl) (by kernel_rfl) (fun _ _ _ h => h) hS0 (by rfl) (fun w hS => by have q := hS.1; go_simp) ?_
        simp only [Act.put, List.setIfInBounds_toArray, List.set_cons_zero, List.set_cons_succ]
        refine wpE_take 4 (v := ?_) rfl (by kernel_rfl) (by kernel_rfl) (by kernel_rfl) (fun _ _ _ h => h) hS0 (by rfl) ?_ ?_
        rotate_left
        · (intro wq; go_simp; try with_reducible rfl)
        simp only [Act.put, List.setIfInBounds_toArray, List.set_cons_zero, List.set_cons_succ]
        refine wpE_take 5 (v := ?_) rfl (by kernel_rfl) (by kernel_rfl) (by kernel_rfl) (fun _ _ _ h => h) hS0 (by rfl) ?_ ?_
        rotate_left
        · (intro wq; go_simp; try with_reducible rfl)
        simp only [Act.put, List.setIfInBounds_toArray, List.set_cons_zero, List.set_cons_succ]
        refine wpE_look 6 (v := .int .i64 r.n) rfl rfl (by kernel_rfl) (by kernel_rfl) (by kernel_rfl) (by kernel_rfl) (fun _ _ _ h => h) hS0 (by rfl) (fun w hS => by have q := hS.1; go_simp) ?_
        simp only [Act.put, List.setIfInBounds_toArray, List.set_cons_zero, List.set_cons_succ]
        refine wpE_exec 3 rfl (by kernel_rfl) (by rfl) ?_
        intro K hK
        go_simp
        refine (crash_any w2.drew g s _ hDd hNg hok r.n hrn).mono ?_
        rintro e w4 ⟨rfl, hD4, hx4⟩
        have hR4 := hRd.ext hx4 (by simp only [Esc.just]; omega) (fun i _ h => .inl h)
        have ho4 := hod.ext hx4 (fun ad h e => by have := (hod.base ad h).1; simp only [Esc.just] at e; omega)
        have hx04 := hxd.trans hx4 (fun i hi h => by simp only [Esc.just] at h; omega)
        have h4 : w2.heap.size ≤ w4.heap.size := hx4.size
        have hS1 := And.intro (hx4.keeps hS0.1 hcg2) (hx4.keeps hS0.2 hcg2)
        refine hK _ _ (fun x => (x.cell? ⟨cb, 1, none⟩ = some (.int .i64 r.n) ∧ x.cell? ⟨cb, 2, none⟩ = some (.slice r.a r.b.length r.c))) (.inr (fun x h => h)) hS1 ?_
        clear hK K
        refine wpE_exec 7 rfl (by kernel_rfl) (by rfl) ?_
        intro K hK
        go_simp
        refine (refcrash_any w4 x s _ hR4 hok r.n hrn).mono ?_
        rintro e w5 ⟨rfl, hR5, hx5⟩
        have hD5 := hD4.ext hx5 (by simp only [Esc.just]; omega) (fun i _ h => .inl h)
        have ho5 := ho4.ext hx5 (fun ad h e => by have := (hod.base ad h).1; simp only [Esc.just] at e; omega)
        have hx05 := hx04.trans hx5 (fun i hi h => by simp only [Esc.just] at h; omega)
        have hS2 := And.intro (hx5.keeps hS1.1 hcx2) (hx5.keeps hS1.2 hcx2)
        refine hK _ _ (fun x => (x.cell? ⟨cb, 1, none⟩ = some (.int .i64 r.n) ∧ x.cell? ⟨cb, 2, none⟩ = some (.slice r.a r.b.length r.c))) (.inr (fun x h => h)) hS2 ?_
        clear hK K
        refine wpE_take 8 (v := .bool false) rfl (by kernel_rfl) (by kernel_rfl) (by kernel_rfl) (fun _ _ _ h => h) hS2 (by rfl) (by intro wq; go_simp) ?_
        simp only [Act.put, List.setIfInBounds_toArray, List.set_cons_zero, List.set_cons_succ]
        refine wpE_done (by kernel_rfl) ?_ _
        go_wp2_with fail
        go_meet
        exact ⟨_, 0, rfl, rfl, hD5, hR5, DS.ok_crash hok r.n, show s.done ≤ k + 1 by omega, ho5, hx05⟩
      · go_upto_region 27 with fail
        refine wp_region_E [5] (fun x => (x.cell? ⟨cb, 1, none⟩ = some (.int .i64 r.n) ∧ x.cell? ⟨cb, 2, none⟩ = some (.slice r.a r.b.length r.c))) (by kernel_rfl) ?_
        refine wpE_take 0 (v := ?_) rfl (by kernel_rfl) (by kernel_rfl) (by kernel_rfl) (fun _ _ _ h => h) hS0 (by rfl) ?_ ?_
        rotate_left
        · (intro wq; go_simp; try with_reducible rfl)
        simp only [Act.put, List.setIfInBounds_toArray, List.set_cons_zero, List.set_cons_succ]
        refine wpE_take 1 (v := ?_) rfl (by kernel_rfl) (by kernel_rfl) (by kernel_rfl) (fun _ _ _ h => h) hS0 (by rfl) ?_ ?_
        rotate_left
        · (intro wq; go_simp; try with_reducible rfl)
        simp only [Act.put, List.setIfInBounds_toArray, List.set_cons_zero, List.set_cons_succ]
        refine wpE_take 3 (v := ?_) rfl (by kernel_rfl) (by kernel_rfl) (by kernel_rfl) (fun _ _ _ h => h) hS0 (by rfl) ?_ ?_
        rotate_left
        · (intro wq; go_simp; try with_reducible rfl)
        simp only [Act.put, List.setIfInBounds_toArray, List.set_cons_zero, List.set_cons_succ]
        refine wpE_take 4 (v := ?_) rfl (by kernel_rfl) (by kernel_rfl) (by kernel_rfl) (fun _ _ _ h => h) hS0 (by rfl) ?_ ?_
        rotate_left
        · (intro wq; go_simp; try with_reducible rfl)
        simp only [Act.put, List.setIfInBounds_toArray, List.set_cons_zero, List.set_cons_succ]
        refine wpE_look 5 (v := .slice r.a r.b.length r.c) rfl rfl (by kernel_rfl) (by kernel_rfl) (by kernel_rfl) (by kernel_rfl) (fun _ _ _ h => h) hS0 (by rfl) (fun w hS => by have q := hS.2; go_simp) ?_
        simp only [Act.put, List.setIfInBounds_toArray, List.set_cons_zero, List.set_cons_succ]
        refine wpE_exec 2 rfl (by kernel_rfl) (by rfl) ?_
        intro K hK
        go_simp
        refine (swap_any w2.drew g s _ hDd hNg hok a3 c3 r.b hod.rd hbg (by omega)).mono ?_
        rintro e w4 ⟨rfl, hD4, hx4⟩
        have hR4 := hRd.ext hx4 (by simp only [Esc.just]; omega) (fun i _ h => .inl h)
        have ho4 := hod.ext hx4 (fun ad h e => by have := (hod.base ad h).1; simp only [Esc.just] at e; omega)
        have hx04 := hxd.trans hx4 (fun i hi h => by simp only [Esc.just] at h; omega)
        have h4 : w2.heap.size ≤ w4.heap.size := hx4.size
        have hS1 := And.intro (hx4.keeps hS0.1 hcg2) (hx4.keeps hS0.2 hcg2)
        refine hK _ _ (fun x => (x.cell? ⟨cb, 1, none⟩ = some (.int .i64 r.n) ∧ x.cell? ⟨cb, 2, none⟩ = some (.slice r.a r.b.length r.c))) (.inr (fun x h => h)) hS1 ?_
        clear hK K
        refine wpE_exec 6 rfl (by kernel_rfl) (by rfl) ?_
        intro K hK
        go_simp
        refine (refswap_any w4 x s _ hR4 (hNx w4 h4) hok r.a r.c r.b (hrd.ext hx04 (fun _ _ h => h)) hbx (by omega)).mono ?_
        rintro e w5 ⟨rfl, hR5, hx5⟩
        have hD5 := hD4.ext hx5 (by simp only [Esc.just]; omega) (fun i _ h => .inl h)
        have ho5 := ho4.ext hx5 (fun ad h e => by have := (hod.base ad h).1; simp only [Esc.just] at e; omega)
        have hx05 := hx04.trans hx5 (fun i hi h => by simp only [Esc.just] at h; omega)
        have hS2 := And.intro (hx5.keeps hS1.1 hcx2) (hx5.keeps hS1.2 hcx2)
        refine hK _ _ (fun x => (x.cell? ⟨cb, 1, none⟩ = some (.int .i64 r.n) ∧ x.cell? ⟨cb, 2, none⟩ = some (.slice r.a r.b.length r.c))) (.inr (fun x h => h)) hS2 ?_
        clear hK K
        refine wpE_take 7 (v := ?_) rfl (by kernel_rfl) (by kernel_rfl) (by kernel_rfl) (fun _ _ _ h => h) hS2 (by rfl) ?_ ?_
        rotate_left
        · (intro wq; go_simp; try with_reducible rfl)
        simp only [Act.put, List.setIfInBounds_toArray, List.set_cons_zero, List.set_cons_succ]
        refine wpE_take 8 (v := ?_) rfl (by kernel_rfl) (by kernel_rfl) (by kernel_rfl) (fun _ _ _ h => h) hS2 (by rfl) ?_ ?_
        rotate_left
        · (intro wq; go_simp; try with_reducible rfl)
        simp only [Act.put, List.setIfInBounds_toArray, List.set_cons_zero, List.set_cons_succ]
        refine wpE_done (by kernel_rfl) ?_ _
        go_wp2_with fail
        go_meet
        exact ⟨_, _, rfl, rfl, hD5, hR5, (DS.ok_swap hok (by omega) r.b).1, Nat.le_trans (DS.ok_swap hok (by omega) r.b).2 (by omega), ho5, hx05⟩
      · go_upto_region 29 with fail
        refine wp_region_E [2, 6] (fun x => (x.cell? ⟨cb, 1, none⟩ = some (.int .i64 r.n) ∧ x.cell? ⟨cb, 2, none⟩ = some (.slice r.a r.b.length r.c))) (by kernel_rfl) ?_
        refine wpE_take 0 (v := ?_) rfl (by kernel_rfl) (by kernel_rfl) (by kernel_rfl) (fun _ _ _ h => h) hS0 (by rfl) ?_ ?_
        rotate_left
        · (intro wq; go_simp; try with_reducible rfl)
        simp only [Act.put, List.setIfInBounds_toArray, List.set_cons_zero, List.set_cons_succ]
        refine wpE_take 1 (v := ?_) rfl (by kernel_rfl) (by kernel_rfl) (by kernel_rfl) (fun _ _ _ h => h) hS0 (by rfl) ?_ ?_
        rotate_left
        · (intro wq; go_simp; try with_reducible rfl)
        simp only [Act.put, List.setIfInBounds_toArray, List.set_cons_zero, List.set_cons_succ]
        refine wpE_look 2 (v := .int .i64 r.n) rfl rfl (by kernel_rfl) (by kernel_rfl) (by kernel_rfl) (by kernel_rfl) (fun _ _ _ h => h) hS0 (by rfl) (fun w hS => by have q := hS.1; go_simp) ?_
        simp only [Act.put, List.setIfInBounds_toArray, List.set_cons_zero, List.set_cons_succ]
        refine wpE_take 4 (v := ?_) rfl (by kernel_rfl) (by kernel_rfl) (by kernel_rfl) (fun _ _ _ h => h) hS0 (by rfl) ?_ ?_
        rotate_left
        · (intro wq; go_simp; try with_reducible rfl)
        simp only [Act.put, List.setIfInBounds_toArray, List.set_cons_zero, List.set_cons_succ]
        refine wpE_take 5 (v := ?_) rfl (by kernel_rfl) (by kernel_rfl) (by kernel_rfl) (fun _ _ _ h => h) hS0 (by rfl) ?_ ?_
        rotate_left
        · (intro wq; go_simp; try with_reducible rfl)
        simp only [Act.put, List.setIfInBounds_toArray, List.set_cons_zero, List.set_cons_succ]
        refine wpE_look 6 (v := .int .i64 r.n) rfl rfl (by kernel_rfl) (by kernel_rfl) (by kernel_rfl) (by kernel_rfl) (fun _ _ _ h => h) hS0 (by rfl) (fun w hS => by have q := hS.1; go_simp) ?_
        simp only [Act.put, List.setIfInBounds_toArray, List.set_cons_zero, List.set_cons_succ]
        refine wpE_exec 3 rfl (by kernel_rfl) (by rfl) ?_
        intro K hK
        go_simp
        refine (cut_any w2.drew g s _ hDd hNg hok r.n hrn).mono ?_
        rintro e w4 ⟨rfl, hD4, hx4⟩
        have hR4 := hRd.ext hx4 (by simp only [Esc.just]; omega) (fun i _ h => .inl h)
        have ho4 := hod.ext hx4 (fun ad h e => by have := (hod.base ad h).1; simp only [Esc.just] at e; omega)
        have hx04 := hxd.trans hx4 (fun i hi h => by simp only [Esc.just] at h; omega)
        have h4 : w2.heap.size ≤ w4.heap.size := hx4.size
        have hS1 := And.intro (hx4.keeps hS0.1 hcg2) (hx4.keeps hS0.2 hcg2)
        refine hK _ _ (fun x => (x.cell? ⟨cb, 1, none⟩ = some (.int .i64 r.n) ∧ x.cell? ⟨cb, 2, none⟩ = some (.slice r.a r.b.length r.c))) (.inr (fun x h => h)) hS1 ?_
        clear hK K
        refine wpE_exec 7 rfl (by kernel_rfl) (by rfl) ?_
        intro K hK
        go_simp
        refine (refcut_any w4 x s _ hR4 (hNx w4 h4) hok r.n hrn).mono ?_
        rintro e w5 ⟨rfl, hR5, hx5⟩
        have hD5 := hD4.ext hx5 (by simp only [Esc.just]; omega) (fun i _ h => .inl h)
        have ho5 := ho4.ext hx5 (fun ad h e => by have := (hod.base ad h).1; simp only [Esc.just] at e; omega)
        have hx05 := hx04.trans hx5 (fun i hi h => by simp only [Esc.just] at h; omega)
        have hS2 := And.intro (hx5.keeps hS1.1 hcx2) (hx5.keeps hS1.2 hcx2)
        refine hK _ _ (fun x => (x.cell? ⟨cb, 1, none⟩ = some (.int .i64 r.n) ∧ x.cell? ⟨cb, 2, none⟩ = some (.slice r.a r.b.length r.c))) (.inr (fun x h => h)) hS2 ?_
        clear hK K
        refine wpE_take 8 (v := ?_) rfl (by kernel_rfl) (by kernel_rfl) (by kernel_rfl) (fun _ _ _ h => h) hS2 (by rfl) ?_ ?_
        rotate_left
        · (intro wq; go_simp; try with_reducible rfl)
        simp only [Act.put, List.setIfInBounds_toArray, List.set_cons_zero, List.set_cons_succ]
        refine wpE_take 9 (v := ?_) rfl (by kernel_rfl) (by kernel_rfl) (by kernel_rfl) (fun _ _ _ h => h) hS2 (by rfl) ?_ ?_
        rotate_left
        · (intro wq; go_simp; try with_reducible rfl)
        simp only [Act.put, List.setIfInBounds_toArray, List.set_cons_zero, List.set_cons_succ]
        refine wpE_done (by kernel_rfl) ?_ _
        go_wp2_with fail
        go_meet
        exact ⟨_, _, rfl, rfl, hD5, hR5, (DS.ok_cut hok (by omega) r.n).1, Nat.le_trans (DS.ok_cut hok (by omega) r.n).2 (by omega), ho5, hx05⟩
      -->S
    case rest =>
      obtain ⟨S, e, h12, h13, hDk3, hRk3, hok3, hdn3, hown3, hx03⟩ := hcut
      subst h12 h13
      clear hDk1 hRk1 hDk2 hRk2 hD0 hR0 hok hdn b0 b1 b2 hblk2 hx02 hown2
      go_wp2_with fail
      go_loopw [14] (fun s14 wr2 => ∃ (j : Nat) (M : List UInt8), j ≤ r.b.length ∧ s14 = .int .i64 j ∧ M.length = r.b.length ∧ Own wr2 w1.heap.size a3 1 r.b.length c3 (bs M) ∧ Dk wr2 g S (fun b => b = x ∨ Nm b) ∧ Rk wr2 x S (fun b => b = g ∨ Nm b) ∧ Ext no w wr2) (fun s14 _ => r.b.length - (intOf s14).toNat)
      case atStart => exact ⟨0, r.b, by omega, rfl, rfl, hown3, hDk3, hRk3, hx03⟩
      case round =>
        clear hown3 hDk3 hRk3 hx03
        obtain ⟨j, M, hj, rfl, hM, hown, hDk, hRk, hx⟩ := hrel
        have HM := Lib.hid hM
        clear hM
        by_cases hjl : j < r.b.length
        · have d1 : decide (j < r.b.length) = true := decT hjl
          obtain ⟨bad, hba, hblt⟩ := hown.rd.ne (by rw [bs_length, HM.out]; omega)
          have hbN : Nm bad.block := by rw [hNm]; exact ⟨bad, hba, rfl⟩
          subst hba
          have hbc := hown.rd.cell j (by rw [bs_length, HM.out]; exact hjl)
          have hbf : wr.frozen? (bad.add j) = false := by
            obtain ⟨_, e, _, f⟩ := hown.can j (by have := hown.nc; omega)
            cases e; exact f
          have hblo := hNlo _ hbN
          have hxs : Ext (just bad.block) wr (wr.setCell (bad.add j) (.int .u8 238)) := Ext.setCell _ _ _ (show (bad.add j).block = bad.block by first | rfl | (simp [Addr.add]; done) | (unfold Addr.add; split <;> rfl))
          have hown5 : Own (wr.setCell (bad.add j) (.int .u8 238)) w1.heap.size (some bad) 1 r.b.length c3 (bs (M.set j 238)) := by
            rw [← bs_set]; exact hown.set j (by have := hown.nc; omega) (.int .u8 238)
          have hDk5 := hDk.ext hxs (by simp only [Esc.just]; omega) (fun i _ h => by simp only [Esc.just] at h; subst h; exact .inr hbN)
          have hRk5 := hRk.ext hxs (by simp only [Esc.just]; omega) (fun i _ h => by simp only [Esc.just] at h; subst h; exact .inr hbN)
          have hx5 := hx.trans hxs (fun i hi h => by simp only [Esc.just] at h; omega)
          go_wp2_with fail
          go_roundw
          case rel => exact ⟨j + 1, M.set j 238, by omega, by go_num, by rw [List.length_set]; exact HM.out, hown5, hDk5, hRk5, hx5⟩
          case measure => simp [intOf]; omega
        · have d1 : decide (j < r.b.length) = false := decF hjl
          have hRk' := hRk
          obtain ⟨ev, la, lc, sa, sc, h0, hB, hl, hs⟩ := hRk
          have d1x : wr.cell? ⟨x, 1, none⟩ = some (.slice la S.log.length lc) := hB.cell 1 _ rfl
          have d3x : wr.cell? ⟨x, 3, none⟩ = some (.slice sa S.snap.length sc) := hB.cell 3 _ rfl
          have d6x : wr.cell? ⟨x, 6, none⟩ = some (.bool S.dead) := hB.cell 6 _ rfl
          have d7x : wr.cell? ⟨x, 7, none⟩ = some (.int .i64 S.done) := hB.cell 7 _ rfl
          have hS0 := Ext.drew no wr
          go_upto_region 34 with fail
          --<C
          refine wp_region_E [6, 10, 11, 17, 21, 22, 33, 44] (fun x => Ext no wr x) (by kernel_rfl) ?_
          refine wpE_take 0 (v := ?_) rfl (by kernel_rfl) (by kernel_rfl) (by kernel_rfl) (fun _ _ _ h => h) hS0 (by rfl) ?_ ?_
          rotate_left
          · (intro wq; go_simp; try with_reducible rfl)
          simp only [Act.put, List.setIfInBounds_toArray, List.set_cons_zero, List.set_cons_succ]
          refine wpE_take 1 (v := ?_) rfl (by kernel_rfl) (by kernel_rfl) (by kernel_rfl) (fun _ _ _ h => h) hS0 (by rfl) ?_ ?_
          rotate_left
          · (intro wq; go_simp; try with_reducible rfl)
          simp only [Act.put, List.setIfInBounds_toArray, List.set_cons_zero, List.set_cons_succ]
          refine wpE_take 2 (v := .bool false) rfl (by kernel_rfl) (by kernel_rfl) (by kernel_rfl) (fun _ _ _ h => h) hS0 (by rfl) (by intro wq; go_simp) ?_
          simp only [Act.put, List.setIfInBounds_toArray, List.set_cons_zero, List.set_cons_succ]
          refine wpE_take 3 (v := ?_) rfl (by kernel_rfl) (by kernel_rfl) (by kernel_rfl) (fun _ _ _ h => h) hS0 (by rfl) ?_ ?_
          rotate_left
          · (intro wq; go_simp; try with_reducible rfl)
          simp only [Act.put, List.setIfInBounds_toArray, List.set_cons_zero, List.set_cons_succ]
          refine wpE_take 4 (v := ?_) rfl (by kernel_rfl) (by kernel_rfl) (by kernel_rfl) (fun _ _ _ h => h) hS0 (by rfl) ?_ ?_
          rotate_left
          · (intro wq; go_simp; try with_reducible rfl)
          simp only [Act.put, List.setIfInBounds_toArray, List.set_cons_zero, List.set_cons_succ]
          refine wpE_take 7 (v := ?_) rfl (by kernel_rfl) (by kernel_rfl) (by kernel_rfl) (fun _ _ _ h => h) hS0 (by rfl) ?_ ?_
          rotate_left
          · (intro wq; go_simp; try with_reducible rfl)
          simp only [Act.put, List.setIfInBounds_toArray, List.set_cons_zero, List.set_cons_succ]
          refine wpE_take 8 (v := ?_) rfl (by kernel_rfl) (by kernel_rfl) (by kernel_rfl) (fun _ _ _ h => h) hS0 (by rfl) ?_ ?_
          rotate_left
          · (intro wq; go_simp; try with_reducible rfl)
          simp only [Act.put, List.setIfInBounds_toArray, List.set_cons_zero, List.set_cons_succ]
          refine wpE_take 9 (v := ?_) rfl (by kernel_rfl) (by kernel_rfl) (by kernel_rfl) (fun _ _ _ h => h) hS0 (by rfl) ?_ ?_
          rotate_left
          · (intro wq; go_simp; try with_reducible rfl)
          simp only [Act.put, List.setIfInBounds_toArray, List.set_cons_zero, List.set_cons_succ]
          refine wpE_look 10 (v := .slice la S.log.length lc) rfl rfl (by kernel_rfl) (by kernel_rfl) (by kernel_rfl) (by kernel_rfl) (fun _ _ _ h => h) hS0 (by rfl) (fun w hS => by have q := hS.keeps d1x (fun h => h); go_simp) ?_
          simp only [Act.put, List.setIfInBounds_toArray, List.set_cons_zero, List.set_cons_succ]
          refine wpE_look 11 rfl rfl (by kernel_rfl) (by kernel_rfl) (by kernel_rfl) (by kernel_rfl) (fun _ _ _ h => h) hS0 (by rfl) (fun w hS => yields_string (by exact Try.underlying23) (by exact Try.underlying5) (by exact Try.underlying9) rfl rfl rfl (hl.1.ext hS (fun _ _ h => h))) ?_
          simp only [Act.put, List.setIfInBounds_toArray, List.set_cons_zero, List.set_cons_succ]
          refine wpE_exec 5 rfl (by kernel_rfl) (by rfl) ?_
          intro K hK
          go_simp
          refine (log_any' wr.drew g S _ (hDk.no (Ext.drew no wr)) hok3).mono ?_
          rintro e w5 ⟨b5, c5, rfl, ho5, hx5⟩
          have hS1 := And.intro (hS0.comp hx5) ho5.rd
          refine hK _ _ (fun x => (Ext no wr x ∧ Rd x b5 (bs S.log))) (.inr (fun x h => h.1)) hS1 ?_
          clear hK K
          refine wpE_look 6 rfl rfl (by kernel_rfl) (by kernel_rfl) (by kernel_rfl) (by kernel_rfl) (fun _ _ _ h => h) hS1 (by rfl) (fun w hS => yields_string (by exact Try.underlying23) (by exact Try.underlying5) (by exact Try.underlying9) rfl rfl rfl (hS.2)) ?_
          simp only [Act.put, List.setIfInBounds_toArray, List.set_cons_zero, List.set_cons_succ]
          refine wpE_take 12 (v := .bool false) rfl (by kernel_rfl) (by kernel_rfl) (by kernel_rfl) (fun _ _ _ h => h) hS1 (by rfl) (by intro wq; go_simp) ?_
          simp only [Act.put, List.setIfInBounds_toArray, List.set_cons_zero, List.set_cons_succ]
          refine wpE_take 13 (v := ?_) rfl (by kernel_rfl) (by kernel_rfl) (by kernel_rfl) (fun _ _ _ h => h) hS1 (by rfl) ?_ ?_
          rotate_left
          · (intro wq; go_simp; try with_reducible rfl)
          simp only [Act.put, List.setIfInBounds_toArray, List.set_cons_zero, List.set_cons_succ]
          refine wpE_take 14 (v := ?_) rfl (by kernel_rfl) (by kernel_rfl) (by kernel_rfl) (fun _ _ _ h => h) hS1 (by rfl) ?_ ?_
          rotate_left
          · (intro wq; go_simp; try with_reducible rfl)
          simp only [Act.put, List.setIfInBounds_toArray, List.set_cons_zero, List.set_cons_succ]
          refine wpE_take 15 (v := ?_) rfl (by kernel_rfl) (by kernel_rfl) (by kernel_rfl) (fun _ _ _ h => h) hS1 (by rfl) ?_ ?_
          rotate_left
          · (intro wq; go_simp; try with_reducible rfl)
          simp only [Act.put, List.setIfInBounds_toArray, List.set_cons_zero, List.set_cons_succ]
          refine wpE_take 18 (v := ?_) rfl (by kernel_rfl) (by kernel_rfl) (by kernel_rfl) (fun _ _ _ h => h) hS1 (by rfl) ?_ ?_
          rotate_left
          · (intro wq; go_simp; try with_reducible rfl)
          simp only [Act.put, List.setIfInBounds_toArray, List.set_cons_zero, List.set_cons_succ]
          refine wpE_take 19 (v := ?_) rfl (by kernel_rfl) (by kernel_rfl) (by kernel_rfl) (fun _ _ _ h => h) hS1 (by rfl) ?_ ?_
          rotate_left
          · (intro wq; go_simp; try with_reducible rfl)
          simp only [Act.put, List.setIfInBounds_toArray, List.set_cons_zero, List.set_cons_succ]
          refine wpE_take 20 (v := ?_) rfl (by kernel_rfl) (by kernel_rfl) (by kernel_rfl) (fun _ _ _ h => h) hS1 (by rfl) ?_ ?_
          rotate_left
          · (intro wq; go_simp; try with_reducible rfl)
          simp only [Act.put, List.setIfInBounds_toArray, List.set_cons_zero, List.set_cons_succ]
          refine wpE_look 21 (v := .slice sa S.snap.length sc) rfl rfl (by kernel_rfl) (by kernel_rfl) (by kernel_rfl) (by kernel_rfl) (fun _ _ _ h => h) hS1 (by rfl) (fun w hS => by have q := hS.1.keeps d3x (fun h => h); go_simp) ?_
          simp only [Act.put, List.setIfInBounds_toArray, List.set_cons_zero, List.set_cons_succ]
          refine wpE_look 22 rfl rfl (by kernel_rfl) (by kernel_rfl) (by kernel_rfl) (by kernel_rfl) (fun _ _ _ h => h) hS1 (by rfl) (fun w hS => yields_string (by exact Try.underlying23) (by exact Try.underlying5) (by exact Try.underlying9) rfl rfl rfl (hs.1.ext hS.1 (fun _ _ h => h))) ?_
          simp only [Act.put, List.setIfInBounds_toArray, List.set_cons_zero, List.set_cons_succ]
          refine wpE_exec 16 rfl (by kernel_rfl) (by rfl) ?_
          intro K hK
          go_simp
          refine (snap_any w5 g S _ (hDk.no hS1.1) hok3).mono ?_
          rintro e w6 ⟨b6, c6, rfl, ho6, hx6⟩
          have hS2 := And.intro (And.intro (hS1.1.comp hx6) (hS1.2.ext hx6 (fun _ _ h => h))) ho6.rd
          refine hK _ _ (fun x => ((Ext no wr x ∧ Rd x b5 (bs S.log)) ∧ Rd x b6 (bs S.snap))) (.inr (fun x h => h.1)) hS2 ?_
          clear hK K
          refine wpE_look 17 rfl rfl (by kernel_rfl) (by kernel_rfl) (by kernel_rfl) (by kernel_rfl) (fun _ _ _ h => h) hS2 (by rfl) (fun w hS => yields_string (by exact Try.underlying23) (by exact Try.underlying5) (by exact Try.underlying9) rfl rfl rfl (hS.2)) ?_
          simp only [Act.put, List.setIfInBounds_toArray, List.set_cons_zero, List.set_cons_succ]
          refine wpE_take 23 (v := .bool false) rfl (by kernel_rfl) (by kernel_rfl) (by kernel_rfl) (fun _ _ _ h => h) hS2 (by rfl) (by intro wq; go_simp) ?_
          simp only [Act.put, List.setIfInBounds_toArray, List.set_cons_zero, List.set_cons_succ]
          refine wpE_take 24 (v := ?_) rfl (by kernel_rfl) (by kernel_rfl) (by kernel_rfl) (fun _ _ _ h => h) hS2 (by rfl) ?_ ?_
          rotate_left
          · (intro wq; go_simp; try with_reducible rfl)
          simp only [Act.put, List.setIfInBounds_toArray, List.set_cons_zero, List.set_cons_succ]
          refine wpE_take 25 (v := ?_) rfl (by kernel_rfl) (by kernel_rfl) (by kernel_rfl) (fun _ _ _ h => h) hS2 (by rfl) ?_ ?_
          rotate_left
          · (intro wq; go_simp; try with_reducible rfl)
          simp only [Act.put, List.setIfInBounds_toArray, List.set_cons_zero, List.set_cons_succ]
          refine wpE_take 26 (v := ?_) rfl (by kernel_rfl) (by kernel_rfl) (by kernel_rfl) (fun _ _ _ h => h) hS2 (by rfl) ?_ ?_
          rotate_left
          · (intro wq; go_simp; try with_reducible rfl)
          simp only [Act.put, List.setIfInBounds_toArray, List.set_cons_zero, List.set_cons_succ]
          refine wpE_take 27 (v := ?_) rfl (by kernel_rfl) (by kernel_rfl) (by kernel_rfl) (fun _ _ _ h => h) hS2 (by rfl) ?_ ?_
          rotate_left
          · (intro wq; go_simp; try with_reducible rfl)
          simp only [Act.put, List.setIfInBounds_toArray, List.set_cons_zero, List.set_cons_succ]
          refine wpE_take 28 (v := ?_) rfl (by kernel_rfl) (by kernel_rfl) (by kernel_rfl) (fun _ _ _ h => h) hS2 (by rfl) ?_ ?_
          rotate_left
          · (intro wq; go_simp; try with_reducible rfl)
          simp only [Act.put, List.setIfInBounds_toArray, List.set_cons_zero, List.set_cons_succ]
          refine wpE_take 30 (v := ?_) rfl (by kernel_rfl) (by kernel_rfl) (by kernel_rfl) (fun _ _ _ h => h) hS2 (by rfl) ?_ ?_
          rotate_left
          · (intro wq; go_simp; try with_reducible rfl)
          simp only [Act.put, List.setIfInBounds_toArray, List.set_cons_zero, List.set_cons_succ]
          refine wpE_take 31 (v := ?_) rfl (by kernel_rfl) (by kernel_rfl) (by kernel_rfl) (fun _ _ _ h => h) hS2 (by rfl) ?_ ?_
          rotate_left
          · (intro wq; go_simp; try with_reducible rfl)
          simp only [Act.put, List.setIfInBounds_toArray, List.set_cons_zero, List.set_cons_succ]
          refine wpE_take 32 (v := ?_) rfl (by kernel_rfl) (by kernel_rfl) (by kernel_rfl) (fun _ _ _ h => h) hS2 (by rfl) ?_ ?_
          rotate_left
          · (intro wq; go_simp; try with_reducible rfl)
          simp only [Act.put, List.setIfInBounds_toArray, List.set_cons_zero, List.set_cons_succ]
          refine wpE_look 33 (v := .bool S.dead) rfl rfl (by kernel_rfl) (by kernel_rfl) (by kernel_rfl) (by kernel_rfl) (fun _ _ _ h => h) hS2 (by rfl) (fun w hS => by have q := hS.1.1.keeps d6x (fun h => h); go_simp) ?_
          simp only [Act.put, List.setIfInBounds_toArray, List.set_cons_zero, List.set_cons_succ]
          refine wpE_exec 29 rfl (by kernel_rfl) (by rfl) ?_
          intro K hK
          go_simp
          refine (dead_any w6 g S _ (hDk.no hS2.1.1)).mono ?_
          rintro e w7 ⟨rfl, rfl⟩
          have hS3 := hS2
          refine hK _ _ (fun x => ((Ext no wr x ∧ Rd x b5 (bs S.log)) ∧ Rd x b6 (bs S.snap))) (.inr (fun x h => h)) hS3 ?_
          clear hK K
          refine wpE_take 34 (v := .bool false) rfl (by kernel_rfl) (by kernel_rfl) (by kernel_rfl) (fun _ _ _ h => h) hS3 (by rfl) (by intro wq; go_simp) ?_
          simp only [Act.put, List.setIfInBounds_toArray, List.set_cons_zero, List.set_cons_succ]
          refine wpE_take 35 (v := ?_) rfl (by kernel_rfl) (by kernel_rfl) (by kernel_rfl) (fun _ _ _ h => h) hS3 (by rfl) ?_ ?_
          rotate_left
          · (intro wq; go_simp; try with_reducible rfl)
          simp only [Act.put, List.setIfInBounds_toArray, List.set_cons_zero, List.set_cons_succ]
          refine wpE_take 36 (v := ?_) rfl (by kernel_rfl) (by kernel_rfl) (by kernel_rfl) (fun _ _ _ h => h) hS3 (by rfl) ?_ ?_
          rotate_left
          · (intro wq; go_simp; try with_reducible rfl)
          simp only [Act.put, List.setIfInBounds_toArray, List.set_cons_zero, List.set_cons_succ]
          refine wpE_take 37 (v := ?_) rfl (by kernel_rfl) (by kernel_rfl) (by kernel_rfl) (fun _ _ _ h => h) hS3 (by rfl) ?_ ?_
          rotate_left
          · (intro wq; go_simp; try with_reducible rfl)
          simp only [Act.put, List.setIfInBounds_toArray, List.set_cons_zero, List.set_cons_succ]
          refine wpE_take 38 (v := ?_) rfl (by kernel_rfl) (by kernel_rfl) (by kernel_rfl) (fun _ _ _ h => h) hS3 (by rfl) ?_ ?_
          rotate_left
          · (intro wq; go_simp; try with_reducible rfl)
          simp only [Act.put, List.setIfInBounds_toArray, List.set_cons_zero, List.set_cons_succ]
          refine wpE_take 39 (v := ?_) rfl (by kernel_rfl) (by kernel_rfl) (by kernel_rfl) (fun _ _ _ h => h) hS3 (by rfl) ?_ ?_
          rotate_left
          · (intro wq; go_simp; try with_reducible rfl)
          simp only [Act.put, List.setIfInBounds_toArray, List.set_cons_zero, List.set_cons_succ]
          refine wpE_take 41 (v := ?_) rfl (by kernel_rfl) (by kernel_rfl) (by kernel_rfl) (fun _ _ _ h => h) hS3 (by rfl) ?_ ?_
          rotate_left
          · (intro wq; go_simp; try with_reducible rfl)
          simp only [Act.put, List.setIfInBounds_toArray, List.set_cons_zero, List.set_cons_succ]
          refine wpE_take 42 (v := ?_) rfl (by kernel_rfl) (by kernel_rfl) (by kernel_rfl) (fun _ _ _ h => h) hS3 (by rfl) ?_ ?_
          rotate_left
          · (intro wq; go_simp; try with_reducible rfl)
          simp only [Act.put, List.setIfInBounds_toArray, List.set_cons_zero, List.set_cons_succ]
          refine wpE_take 43 (v := ?_) rfl (by kernel_rfl) (by kernel_rfl) (by kernel_rfl) (fun _ _ _ h => h) hS3 (by rfl) ?_ ?_
          rotate_left
          · (intro wq; go_simp; try with_reducible rfl)
          simp only [Act.put, List.setIfInBounds_toArray, List.set_cons_zero, List.set_cons_succ]
          refine wpE_look 44 (v := .int .i64 S.done) rfl rfl (by kernel_rfl) (by kernel_rfl) (by kernel_rfl) (by kernel_rfl) (fun _ _ _ h => h) hS3 (by rfl) (fun w hS => by have q := hS.1.1.keeps d7x (fun h => h); go_simp) ?_
          simp only [Act.put, List.setIfInBounds_toArray, List.set_cons_zero, List.set_cons_succ]
          refine wpE_exec 40 rfl (by kernel_rfl) (by rfl) ?_
          intro K hK
          go_simp
          refine (ops_any w6 g S _ (hDk.no hS2.1.1)).mono ?_
          rintro e w7 ⟨rfl, rfl⟩
          have hS4 := hS2
          refine hK _ _ (fun x => ((Ext no wr x ∧ Rd x b5 (bs S.log)) ∧ Rd x b6 (bs S.snap))) (.inr (fun x h => h)) hS4 ?_
          clear hK K
          refine wpE_take 45 (v := .bool false) rfl (by kernel_rfl) (by kernel_rfl) (by kernel_rfl) (fun _ _ _ h => h) hS4 (by rfl) (by intro wq; go_simp) ?_
          simp only [Act.put, List.setIfInBounds_toArray, List.set_cons_zero, List.set_cons_succ]
          refine wpE_take 46 (v := ?_) rfl (by kernel_rfl) (by kernel_rfl) (by kernel_rfl) (fun _ _ _ h => h) hS4 (by rfl) ?_ ?_
          rotate_left
          · (intro wq; go_simp; try with_reducible rfl)
          simp only [Act.put, List.setIfInBounds_toArray, List.set_cons_zero, List.set_cons_succ]
          refine wpE_done (by kernel_rfl) ?_ _
          go_wp2_with fail
          go_roundw
          case rel => exact ⟨k + 1, S, by omega, by omega, by go_num, (hDk.fewer (fun _ _ h => .inl h)).no hS2.1.1, (hRk'.fewer (fun _ _ h => .inl h)).no hS2.1.1, hok3, hdn3, hx.comp hS2.1.1⟩
          case measure => simp [intOf]; omega
          -->C
end Go.Proofs.Ytfihjjbonahahaa
