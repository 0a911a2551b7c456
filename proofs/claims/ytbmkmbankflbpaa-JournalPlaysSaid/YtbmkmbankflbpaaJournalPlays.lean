/- The walk of the law JournalPlays. -/
import Derived.Test.YtbmkmbankflbpaaJoU
import Derived.Test.YtbmkmbankflbpaaRegionF
import Derived.Deep.CutBlock
namespace Go.Proofs.Ytbmkmbankflbpaa
open Go.RowKit Go.Esc
set_option linter.unusedVariables false
set_option linter.unusedSimpArgs false

theorem calls_pos : ∀ {cl : List CallR}, 0 < cl.length → 0 < (cl.flatMap CallR.cells).length
  | [], h => absurd h (by simp)
  | c :: cl, _ => by rw [List.flatMap_cons, List.length_append]; simp only [CallR.cells, List.length_cons]; omega
theorem calls_cell {w : World} {b o : Nat} : ∀ {cl : List CallR} {k : Nat} {r : CallR}, Rd w (some ⟨b, o, none⟩) (cl.flatMap CallR.cells) → cl[k]? = some r → ∀ m v, r.cells[m]? = some v → w.cell? ⟨b, o + k * 3 + m, none⟩ = some v := by
  intro cl k r h hr m v hm
  have hm3 : m < 3 := (List.getElem?_eq_some_iff.1 hm).1
  obtain ⟨ad, hs, hc⟩ := h (k * 3 + m) v (by
    clear h
    induction cl generalizing k with
    | nil => simp at hr
    | cons c cl ih =>
      rw [List.flatMap_cons]
      cases k with
      | zero =>
        simp at hr
        subst hr
        rw [List.getElem?_append_left (by simp [CallR.cells]; omega), Nat.zero_mul, Nat.zero_add]
        exact hm
      | succ k =>
        rw [List.getElem?_append_right (by simp [CallR.cells]; omega), show (k + 1) * 3 + m - c.cells.length = k * 3 + m by simp [CallR.cells]; omega]
        exact ih (by simpa using hr))
  cases hs
  rw [Addr.add_lit] at hc
  rw [Nat.add_assoc]
  exact hc

set_option maxRecDepth 100000 in
set_option maxHeartbeats 16000000 in
theorem jplays_walk (w : World) (room : Int) (ca : Option Addr) (cl : List CallR) (cc : Nat) (hroom : I64ok room) (hcd : Rd w ca (cl.flatMap CallR.cells)) (hcg : ∀ r ∈ cl, r.good w) (hcl : cl.length ≤ cc) (hcc : cc ≤ maxLen) :
    Calls Try.prog 6 #[.int .i64 room, .slice ca cl.length cc] w fun e w' => e = .returned (.bool true) ∧ Ext no w w' := by
  unfold maxLen at hcc
  go_enter Try.func6, Try.ntmps6
  go_wp2_with fail
  refine (known_any w).mono ?_
  rintro e w1 ⟨rfl, hx1⟩
  go_wp2_with fail
  refine (within_any room 4000 w1 (by omega) (by omega) hroom).mono ?_
  rintro e w2 ⟨rfl, rfl⟩
  obtain ⟨R, hR⟩ : ∃ R : Nat, room % 4000 = R := ⟨(room % 4000).toNat, by omega⟩
  rw [hR]
  have hR1 : R < 4000 := by omega
  clear hR hroom
  go_wp2_with fail
  rw [show (1 : Int) + R = ((1 + R : Nat) : Int) by omega]
  have hok0 := DS.new_ok (1 + R) (by omega)
  refine (newdisk_any w1 (1 + R) (by omega) (by omega) (fun _ => True)).mono ?_
  rintro e w2 ⟨g, rfl, hD2, hg, hx2⟩
  go_wp2_with fail
  refine (refnew_any w2 (1 + R) (by omega) (by omega) (fun _ => True)).mono ?_
  rintro e w3 ⟨x, rfl, hR3, hx, hx3⟩
  have hgl := hD2.lt
  have hxl := hR3.lt
  have hs1 := hx1.size
  have hs2 := hx2.size
  have hs3 := hx3.size
  have P0 : Pr w w3 g x (DS.new (1 + R)) (fun i => i = g ∨ i = x) (.pointer none) (.pointer none) 0 := ⟨(hD2.fewer (fun _ _ _ => trivial)).no hx3, hR3.fewer (fun _ _ _ => trivial), hok0, by omega, .inl rfl, .inr rfl, fun i hi => by rcases hi with rfl | rfl <;> omega, fun i hi => by rcases hi with rfl | rfl <;> omega, .inl ⟨rfl, rfl⟩, (hx1.comp hx2).comp hx3⟩
  have hne : g ≠ x := P0.ne
  clear hD2 hR3 hx1 hx2 hx3 hgl hxl hs1 hs2 hs3 hg hx
  go_wp2_with fail
  refine (open_any w3 g _ _ P0.D P0.lt P0.ok).mono ?_
  rintro e w4 ⟨J, sa, sc, la, lc, rfl, _, _, hx4, e1⟩
  rw [new_opens] at e1 ⊢
  simp only at e1
  rcases e1 with ⟨h0, _⟩ | ⟨_, j0, rfl, j1, j2, J1, D1⟩
  · exact absurd rfl h0
  obtain ⟨R4, lt4, _⟩ := P0.midO (k := 0) hx4 (.inr ⟨rfl, j0, rfl, j1, j2, J1, D1⟩)
  go_wp2_with fail
  refine (refopen_any w4 x _ _ R4 lt4 P0.ok).mono ?_
  rintro e w5 ⟨J', sb, sd, lb, ld, rfl, _, _, hx5, e2⟩
  rw [new_opens] at e2 ⊢
  obtain ⟨M0, P, _, _⟩ := P0.opened (k := 0) hx4 (.inr ⟨rfl, j0, rfl, j1, j2, J1, D1⟩) hx5 e2 P0.ok (B' := 0) (Nat.le_refl _)
  have hdone0 : (DS.new (1 + R)).done = 0 := rfl
  generalize DS.new (1 + R) = s0 at *
  clear P0 hx4 j1 j2 J1 D1 hx5 e2 R4 lt4 hok0
  go_wp2_with fail
  go_loopw [9, 13, 17] (fun s9 s13 s17 wr => ∃ (k : Nat) (s : DS) (M : Nat → Prop), k ≤ cl.length ∧ k ≤ 80 ∧ s17 = .int .i64 k ∧ s.done ≤ 2 * k ∧ Pr w wr g x s M s9 s13 (2097152 + k)) (fun _ _ s17 _ => cl.length - (intOf s17).toNat)
  case atStart => exact ⟨0, s0, M0, Nat.zero_le _, by omega, rfl, by omega, P.mono (by omega)⟩
  case round =>
    clear P hdone0
    obtain ⟨k, s, M, hk, hk80, rfl, hdn, P⟩ := hrel
    by_cases hgo : k < cl.length ∧ k < 80
    rotate_left
    · by_cases hlt : k < cl.length
      · have dd : decide (k < cl.length) = true := decT (by omega)
        have dd2 : decide ((k : Int) < 80) = false := decF (by omega)
        have hxr := P.x
        go_wp2_with fail
        go_ret
        exact ⟨rfl, hxr⟩
      · have dd : decide (k < cl.length) = false := decF (by omega)
        have hxr := P.x
        go_wp2_with fail
        go_ret
        exact ⟨rfl, hxr⟩
    obtain ⟨hk1, hk2⟩ := hgo
    have dd : decide (k < cl.length) = true := decT (by omega)
    have dd2 : decide ((k : Int) < 80) = true := decT (by omega)
    obtain ⟨r, hr⟩ : ∃ r, cl[k]? = some r := ⟨_, List.getElem?_eq_getElem hk1⟩
    have hrg := hcg r (List.mem_of_getElem? hr)
    have hcr := hcd.ext P.x (fun _ _ h => h)
    have hpos := calls_pos (show 0 < cl.length by omega)
    obtain ⟨ab, ao, rfl, hadlt⟩ := hcr.shape hpos
    have hq := fun m v hm => (calls_cell hcr hr m v hm)
    have q0 : wr.cell? ⟨ab, ao + k * 3, none⟩ = some (.int .i64 r.kind) := hq 0 _ rfl
    have q1 : wr.cell? ⟨ab, ao + k * 3 + 1, none⟩ = some (.int .i64 r.n) := hq 1 _ rfl
    have q2 : wr.cell? ⟨ab, ao + k * 3 + 2, none⟩ = some (.slice r.a r.b.length r.c) := hq 2 _ rfl
    clear hq
    go_upto_region 14 with fail
    obtain ⟨w1, hw1⟩ : ∃ w1, w1 = wr.alloc (.cells #[.int .i64 r.kind, .int .i64 r.n, .slice r.a r.b.length r.c] 52) := ⟨_, rfl⟩
    have hblk := Blk.lit wr #[.int .i64 r.kind, .int .i64 r.n, .slice r.a r.b.length r.c] 52
    have hx1 := Ext.alloc no wr (.cells #[.int .i64 r.kind, .int .i64 r.n, .slice r.a r.b.length r.c] 52)
    rw [← hw1] at hblk hx1 ⊢
    have hMc : ∀ i, M i → i ≠ wr.heap.size := fun i hi => by have := P.lt i hi; omega
    replace P := P.no hx1
    clear hx1 hw1 q0 q1 q2 hadlt hpos hcr
    generalize wr.heap.size = cb at *
    have b0 : w1.cell? ⟨cb, 0, none⟩ = some (.int .i64 r.kind) := hblk.cell 0 _ rfl
    have b1 : w1.cell? ⟨cb, 1, none⟩ = some (.int .i64 r.n) := hblk.cell 1 _ rfl
    have b2 : w1.cell? ⟨cb, 2, none⟩ = some (.slice r.a r.b.length r.c) := hblk.cell 2 _ rfl
    obtain ⟨hrk, hrn, hrd, hrl, hrc⟩ := hrg
    by_cases hbig : 200 < r.b.length
    · have db : decide ((200 : Int) < r.b.length) = true := decT (by omega)
      go_wp2_with fail
      go_roundw
      case rel => exact ⟨k + 1, s, M, by omega, by omega, by go_num, by omega, P.mono (by omega)⟩
      case measure => simp [intOf]; omega
    have db : decide ((200 : Int) < r.b.length) = false := decF (by omega)
    have hcg' := (hMc g P.Mg).symm
    have hcx' := (hMc x P.Mx).symm
    go_upto_block 2 with fail
    refine (within_any r.kind 9 w1 (by omega) (by omega) hrk).mono ?_
    rintro e w3 ⟨rfl, rfl⟩
    obtain ⟨q, hqe⟩ : ∃ q, q = r.kind % 9 := ⟨_, rfl⟩
    rw [← hqe]
    have HQ := Lib.hid hqe
    clear hqe
    go_upto_block 2 with fail
    go_cut [9, 13, 19, 20, 21, 22, 23, 24, 25, 26, 27, 28, 85, 100, 112, 124, 178] (fun s9 s13 s19 s20 _ _ _ _ _ _ _ _ _ _ _ _ _ wx => ∃ (S : DS) (e : Nat) (M : Nat → Prop), s19 = .int .i64 e ∧ s20 = .int .i64 e ∧ S.done ≤ 2 * k + 2 ∧ Pr w wx g x S M s9 s13 (2097153 + k))
    case first =>
      --<S
      exact acts w w1 g x cb k s M _ _ r q P hdn hk2 hMc b0 b1 b2 hrk hrn hrd hbig HQ _ _ _ _ _ _ _ _ _ _ _ _ _ _ _ _ _ _ _ _ _ _ _ _ _ _ _ _ _ _ _ _ _ _ _ _ _ _ _ _ _ _ _ _ _ _ _ _ _ _ _ _ _ _ _ _ _ _ _ _ _ _ _ _ _ _ _ _ _ _ _ _ _ _ _ _ _ _ _ _ _ _ _ _ _ _ _ _ _ _ _ _ _ _ _ _ _ _ _ _ _ _ _ _ _ _ _ _ _ _ _ _ _ _ _ _ _ _ _ _ _ _ _ _ _ _ _ _ _ _ _ _ _ _ _ _ _ _ _ _ _ _ _ _ _ _ _ _ _ _ _ _ _ _ _ _ _ _ _ _ _ _ _ _ _ _ _ _ _ _ _ _ _ _ _ _ _ _ _ _ _ _ _ _ _ _ _ _ _ _ _ _ _ _ _ _ _ _ _ _ _ _ _ _ _ _ _ _ _ _ _ _ _ _ _ _ _ _ _ (fun S e M' v u wx _ _ _ _ _ _ _ _ _ _ _ _ _ _ _ _ _ _ _ _ _ _ _ _ _ _ _ _ _ _ _ _ _ _ _ _ _ _ _ _ _ _ _ _ _ _ _ _ _ _ _ _ _ _ _ _ _ _ _ _ _ _ _ _ _ _ _ _ _ _ _ _ _ _ _ _ _ _ _ _ _ _ _ _ _ _ _ _ _ _ _ _ _ _ _ _ _ _ _ _ _ _ _ _ _ _ _ _ _ _ _ hd' P' => by dsimp only; go_wp2_with fail; go_meet; exact ⟨S, e, M', rfl, rfl, hd', P'⟩)
      -->S
    case rest =>
      clear P b0 b1 b2 hblk hMc hcg' hcx' hrd hrk hrn HQ
      obtain ⟨S, e, M, rfl, rfl, hdn2, P⟩ := hcut
      generalize wc = w2 at *
      have Pd := P.no (Ext.drew no w2)
      obtain ⟨ev, ra, rc, pa, pc, h0, hB, hl, hp⟩ := P.R
      have d1 : w2.cell? ⟨x, 1, none⟩ = some (.slice ra S.log.length rc) := hB.cell 1 _ rfl
      have d3 : w2.cell? ⟨x, 3, none⟩ = some (.slice pa S.snap.length pc) := hB.cell 3 _ rfl
      have hokS := P.ok
      rcases P.J with ⟨rfl, rfl⟩ | ⟨j, y, n, rfl, rfl, Jj, Jy, hMj, hMy, n1, n2, n3, n4, n5, hnB⟩
      · go_upto_region 41 with fail
        --<C
        refine wp_region_F [6, 10, 11, 17, 21, 22] (looks [(6, fun z => True), (10, fun z => Ext no w2 z), (11, fun z => Ext no w2 z), (17, fun z => True), (21, fun z => Ext no w2 z), (22, fun z => Ext no w2 z)]) (by kernel_rfl) ?_
        have hT0 : ∀ k, looks [(6, fun z => True), (10, fun z => Ext no w2 z), (11, fun z => Ext no w2 z), (17, fun z => True), (21, fun z => Ext no w2 z), (22, fun z => Ext no w2 z)] k (w2.drew) := looks_all ⟨trivial, (Ext.drew no w2), (Ext.drew no w2), trivial, (Ext.drew no w2), (Ext.drew no w2), trivial⟩
        refine wpF_take 0 (v := ?_) rfl (by kernel_rfl) (by kernel_rfl) (by kernel_rfl) (fun _ _ _ h => h) hT0 (by rfl) ?_ ?_
        rotate_left
        · (intro wq; go_simp; try with_reducible rfl)
        simp only [Act.put, List.setIfInBounds_toArray, List.set_cons_zero, List.set_cons_succ]
        refine wpF_take 1 (v := ?_) rfl (by kernel_rfl) (by kernel_rfl) (by kernel_rfl) (fun _ _ _ h => h) hT0 (by rfl) ?_ ?_
        rotate_left
        · (intro wq; go_simp; try with_reducible rfl)
        simp only [Act.put, List.setIfInBounds_toArray, List.set_cons_zero, List.set_cons_succ]
        refine wpF_take 2 (v := ?_) rfl (by kernel_rfl) (by kernel_rfl) (by kernel_rfl) (fun _ _ _ h => h) hT0 (by rfl) ?_ ?_
        rotate_left
        · (intro wq; go_simp; try with_reducible rfl)
        simp only [Act.put, List.setIfInBounds_toArray, List.set_cons_zero, List.set_cons_succ]
        refine wpF_take 3 (v := ?_) rfl (by kernel_rfl) (by kernel_rfl) (by kernel_rfl) (fun _ _ _ h => h) hT0 (by rfl) ?_ ?_
        rotate_left
        · (intro wq; go_simp; try with_reducible rfl)
        simp only [Act.put, List.setIfInBounds_toArray, List.set_cons_zero, List.set_cons_succ]
        refine wpF_take 4 (v := ?_) rfl (by kernel_rfl) (by kernel_rfl) (by kernel_rfl) (fun _ _ _ h => h) hT0 (by rfl) ?_ ?_
        rotate_left
        · (intro wq; go_simp; try with_reducible rfl)
        simp only [Act.put, List.setIfInBounds_toArray, List.set_cons_zero, List.set_cons_succ]
        refine wpF_take 7 (v := ?_) rfl (by kernel_rfl) (by kernel_rfl) (by kernel_rfl) (fun _ _ _ h => h) hT0 (by rfl) ?_ ?_
        rotate_left
        · (intro wq; go_simp; try with_reducible rfl)
        simp only [Act.put, List.setIfInBounds_toArray, List.set_cons_zero, List.set_cons_succ]
        refine wpF_take 8 (v := ?_) rfl (by kernel_rfl) (by kernel_rfl) (by kernel_rfl) (fun _ _ _ h => h) hT0 (by rfl) ?_ ?_
        rotate_left
        · (intro wq; go_simp; try with_reducible rfl)
        simp only [Act.put, List.setIfInBounds_toArray, List.set_cons_zero, List.set_cons_succ]
        refine wpF_take 9 (v := ?_) rfl (by kernel_rfl) (by kernel_rfl) (by kernel_rfl) (fun _ _ _ h => h) hT0 (by rfl) ?_ ?_
        rotate_left
        · (intro wq; go_simp; try with_reducible rfl)
        simp only [Act.put, List.setIfInBounds_toArray, List.set_cons_zero, List.set_cons_succ]
        refine wpF_look 10 (v := .slice ra S.log.length rc) rfl rfl (by kernel_rfl) (by kernel_rfl) (by kernel_rfl) (by kernel_rfl) (fun _ _ _ h => h) hT0 (by rfl) (fun w hS => by have hS : Ext no w2 w := hS; have q0 := hS.keeps d1 (fun h => h); go_simp) ?_
        simp only [Act.put, List.setIfInBounds_toArray, List.set_cons_zero, List.set_cons_succ]
        refine wpF_look 11 (v := .string (str S.log)) rfl rfl (by kernel_rfl) (by kernel_rfl) (by kernel_rfl) (by kernel_rfl) (fun _ _ _ h => h) hT0 (by rfl) (fun w hS => by have hS : Ext no w2 w := hS; exact yields_string (by exact Try.underlying22) (by exact Try.underlying5) (by exact Try.underlying9) rfl rfl rfl (hl.1.ext hS (fun _ _ h => h))) ?_
        simp only [Act.put, List.setIfInBounds_toArray, List.set_cons_zero, List.set_cons_succ]
        refine wpF_exec 5 rfl (by kernel_rfl) (by rfl) ?_
        intro K hK
        go_simp
        refine (log_any' (w2.drew) g S M (P.D.no (Ext.drew no w2)) hokS).mono ?_
        rintro e v5 ⟨a5, c5, rfl, ho5, hx5⟩
        have hr5 := ho5.rd
        have hT1 : ∀ k, looks [(6, fun z => Rd z a5 (bs S.log)), (10, fun z => Ext no w2 z), (11, fun z => Ext no w2 z), (17, fun z => True), (21, fun z => Ext no w2 z), (22, fun z => Ext no w2 z)] k (v5) := looks_all ⟨hr5, ((Ext.drew no w2).comp hx5), ((Ext.drew no w2).comp hx5), trivial, ((Ext.drew no w2).comp hx5), ((Ext.drew no w2).comp hx5), trivial⟩
        refine hK _ _ (looks [(6, fun z => Rd z a5 (bs S.log)), (10, fun z => Ext no w2 z), (11, fun z => Ext no w2 z), (17, fun z => True), (21, fun z => Ext no w2 z), (22, fun z => Ext no w2 z)]) ⟨.inl (by kernel_rfl), .inr (.inr (fun x h => h)), .inr (.inr (fun x h => h)), .inl (by kernel_rfl), .inl (by kernel_rfl), .inl (by kernel_rfl), trivial⟩ hT1 ?_
        clear hK K
        try simp only [Act.put, List.setIfInBounds_toArray, List.set_cons_zero, List.set_cons_succ]
        refine wpF_look 6 (v := .string (str S.log)) rfl rfl (by kernel_rfl) (by kernel_rfl) (by kernel_rfl) (by kernel_rfl) (fun _ _ _ h => h) hT1 (by rfl) (fun w hS => by have hS : Rd w a5 (bs S.log) := hS; exact yields_string (by exact Try.underlying22) (by exact Try.underlying5) (by exact Try.underlying9) rfl rfl rfl hS) ?_
        simp only [Act.put, List.setIfInBounds_toArray, List.set_cons_zero, List.set_cons_succ]
        refine wpF_take 12 (v := .bool false) rfl (by kernel_rfl) (by kernel_rfl) (by kernel_rfl) (fun _ _ _ h => h) hT1 (by rfl) (by intro wq; have cs := beqStrT (rfl : S.log = S.log); go_simp) ?_
        simp only [Act.put, List.setIfInBounds_toArray, List.set_cons_zero, List.set_cons_succ]
        refine wpF_take 13 (v := ?_) rfl (by kernel_rfl) (by kernel_rfl) (by kernel_rfl) (fun _ _ _ h => h) hT1 (by rfl) ?_ ?_
        rotate_left
        · (intro wq; go_simp; try with_reducible rfl)
        simp only [Act.put, List.setIfInBounds_toArray, List.set_cons_zero, List.set_cons_succ]
        refine wpF_take 14 (v := ?_) rfl (by kernel_rfl) (by kernel_rfl) (by kernel_rfl) (fun _ _ _ h => h) hT1 (by rfl) ?_ ?_
        rotate_left
        · (intro wq; go_simp; try with_reducible rfl)
        simp only [Act.put, List.setIfInBounds_toArray, List.set_cons_zero, List.set_cons_succ]
        refine wpF_take 15 (v := ?_) rfl (by kernel_rfl) (by kernel_rfl) (by kernel_rfl) (fun _ _ _ h => h) hT1 (by rfl) ?_ ?_
        rotate_left
        · (intro wq; go_simp; try with_reducible rfl)
        simp only [Act.put, List.setIfInBounds_toArray, List.set_cons_zero, List.set_cons_succ]
        refine wpF_take 18 (v := ?_) rfl (by kernel_rfl) (by kernel_rfl) (by kernel_rfl) (fun _ _ _ h => h) hT1 (by rfl) ?_ ?_
        rotate_left
        · (intro wq; go_simp; try with_reducible rfl)
        simp only [Act.put, List.setIfInBounds_toArray, List.set_cons_zero, List.set_cons_succ]
        refine wpF_take 19 (v := ?_) rfl (by kernel_rfl) (by kernel_rfl) (by kernel_rfl) (fun _ _ _ h => h) hT1 (by rfl) ?_ ?_
        rotate_left
        · (intro wq; go_simp; try with_reducible rfl)
        simp only [Act.put, List.setIfInBounds_toArray, List.set_cons_zero, List.set_cons_succ]
        refine wpF_take 20 (v := ?_) rfl (by kernel_rfl) (by kernel_rfl) (by kernel_rfl) (fun _ _ _ h => h) hT1 (by rfl) ?_ ?_
        rotate_left
        · (intro wq; go_simp; try with_reducible rfl)
        simp only [Act.put, List.setIfInBounds_toArray, List.set_cons_zero, List.set_cons_succ]
        refine wpF_look 21 (v := .slice pa S.snap.length pc) rfl rfl (by kernel_rfl) (by kernel_rfl) (by kernel_rfl) (by kernel_rfl) (fun _ _ _ h => h) hT1 (by rfl) (fun w hS => by have hS : Ext no w2 w := hS; have q0 := hS.keeps d3 (fun h => h); go_simp) ?_
        simp only [Act.put, List.setIfInBounds_toArray, List.set_cons_zero, List.set_cons_succ]
        refine wpF_look 22 (v := .string (str S.snap)) rfl rfl (by kernel_rfl) (by kernel_rfl) (by kernel_rfl) (by kernel_rfl) (fun _ _ _ h => h) hT1 (by rfl) (fun w hS => by have hS : Ext no w2 w := hS; exact yields_string (by exact Try.underlying22) (by exact Try.underlying5) (by exact Try.underlying9) rfl rfl rfl (hp.1.ext hS (fun _ _ h => h))) ?_
        simp only [Act.put, List.setIfInBounds_toArray, List.set_cons_zero, List.set_cons_succ]
        refine wpF_exec 16 rfl (by kernel_rfl) (by rfl) ?_
        intro K hK
        go_simp
        refine (snap_any (v5) g S M (P.D.no ((Ext.drew no w2).comp hx5)) hokS).mono ?_
        rintro e v16 ⟨a16, c16, rfl, ho16, hx16⟩
        have hr16 := ho16.rd
        have hT2 : ∀ k, looks [(6, fun z => Rd z a5 (bs S.log)), (10, fun z => Ext no w2 z), (11, fun z => Ext no w2 z), (17, fun z => Rd z a16 (bs S.snap)), (21, fun z => Ext no w2 z), (22, fun z => Ext no w2 z)] k (v16) := looks_all ⟨(hr5.ext hx16 (fun _ _ h => h)), (((Ext.drew no w2).comp hx5).comp hx16), (((Ext.drew no w2).comp hx5).comp hx16), hr16, (((Ext.drew no w2).comp hx5).comp hx16), (((Ext.drew no w2).comp hx5).comp hx16), trivial⟩
        refine hK _ _ (looks [(6, fun z => Rd z a5 (bs S.log)), (10, fun z => Ext no w2 z), (11, fun z => Ext no w2 z), (17, fun z => Rd z a16 (bs S.snap)), (21, fun z => Ext no w2 z), (22, fun z => Ext no w2 z)]) ⟨.inr (.inl (by kernel_rfl)), .inr (.inl (by kernel_rfl)), .inr (.inl (by kernel_rfl)), .inl (by kernel_rfl), .inr (.inr (fun x h => h)), .inr (.inr (fun x h => h)), trivial⟩ hT2 ?_
        clear hK K
        try simp only [Act.put, List.setIfInBounds_toArray, List.set_cons_zero, List.set_cons_succ]
        refine wpF_look 17 (v := .string (str S.snap)) rfl rfl (by kernel_rfl) (by kernel_rfl) (by kernel_rfl) (by kernel_rfl) (fun _ _ _ h => h) hT2 (by rfl) (fun w hS => by have hS : Rd w a16 (bs S.snap) := hS; exact yields_string (by exact Try.underlying22) (by exact Try.underlying5) (by exact Try.underlying9) rfl rfl rfl hS) ?_
        simp only [Act.put, List.setIfInBounds_toArray, List.set_cons_zero, List.set_cons_succ]
        refine wpF_take 23 (v := .bool false) rfl (by kernel_rfl) (by kernel_rfl) (by kernel_rfl) (fun _ _ _ h => h) hT2 (by rfl) (by intro wq; have cs := beqStrT (rfl : S.snap = S.snap); go_simp) ?_
        simp only [Act.put, List.setIfInBounds_toArray, List.set_cons_zero, List.set_cons_succ]
        refine wpF_take 24 (v := ?_) rfl (by kernel_rfl) (by kernel_rfl) (by kernel_rfl) (fun _ _ _ h => h) hT2 (by rfl) ?_ ?_
        rotate_left
        · (intro wq; go_simp; try with_reducible rfl)
        simp only [Act.put, List.setIfInBounds_toArray, List.set_cons_zero, List.set_cons_succ]
        refine wpF_take 25 (v := ?_) rfl (by kernel_rfl) (by kernel_rfl) (by kernel_rfl) (fun _ _ _ h => h) hT2 (by rfl) ?_ ?_
        rotate_left
        · (intro wq; go_simp; try with_reducible rfl)
        simp only [Act.put, List.setIfInBounds_toArray, List.set_cons_zero, List.set_cons_succ]
        refine wpF_take 26 (v := ?_) rfl (by kernel_rfl) (by kernel_rfl) (by kernel_rfl) (fun _ _ _ h => h) hT2 (by rfl) ?_ ?_
        rotate_left
        · (intro wq; go_simp; try with_reducible rfl)
        simp only [Act.put, List.setIfInBounds_toArray, List.set_cons_zero, List.set_cons_succ]
        refine wpF_take 27 (v := ?_) rfl (by kernel_rfl) (by kernel_rfl) (by kernel_rfl) (fun _ _ _ h => h) hT2 (by rfl) ?_ ?_
        rotate_left
        · (intro wq; go_simp; try with_reducible rfl)
        simp only [Act.put, List.setIfInBounds_toArray, List.set_cons_zero, List.set_cons_succ]
        refine wpF_take 28 (v := ?_) rfl (by kernel_rfl) (by kernel_rfl) (by kernel_rfl) (fun _ _ _ h => h) hT2 (by rfl) ?_ ?_
        rotate_left
        · (intro wq; go_simp; try with_reducible rfl)
        simp only [Act.put, List.setIfInBounds_toArray, List.set_cons_zero, List.set_cons_succ]
        refine wpF_skip 29 rfl (by kernel_rfl) (by kernel_rfl) (by kernel_rfl) (fun _ _ _ h => h) hT2 (by rfl) ?_
        simp only [Act.put, List.setIfInBounds_toArray, List.set_cons_zero, List.set_cons_succ]
        refine wpF_skip 30 rfl (by kernel_rfl) (by kernel_rfl) (by kernel_rfl) (fun _ _ _ h => h) hT2 (by rfl) ?_
        simp only [Act.put, List.setIfInBounds_toArray, List.set_cons_zero, List.set_cons_succ]
        refine wpF_skip 31 rfl (by kernel_rfl) (by kernel_rfl) (by kernel_rfl) (fun _ _ _ h => h) hT2 (by rfl) ?_
        simp only [Act.put, List.setIfInBounds_toArray, List.set_cons_zero, List.set_cons_succ]
        refine wpF_skip 32 rfl (by kernel_rfl) (by kernel_rfl) (by kernel_rfl) (fun _ _ _ h => h) hT2 (by rfl) ?_
        simp only [Act.put, List.setIfInBounds_toArray, List.set_cons_zero, List.set_cons_succ]
        refine wpF_skip 33 rfl (by kernel_rfl) (by kernel_rfl) (by kernel_rfl) (fun _ _ _ h => h) hT2 (by rfl) ?_
        simp only [Act.put, List.setIfInBounds_toArray, List.set_cons_zero, List.set_cons_succ]
        refine wpF_skip 34 rfl (by kernel_rfl) (by kernel_rfl) (by kernel_rfl) (fun _ _ _ h => h) hT2 (by rfl) ?_
        simp only [Act.put, List.setIfInBounds_toArray, List.set_cons_zero, List.set_cons_succ]
        refine wpF_skip 35 rfl (by kernel_rfl) (by kernel_rfl) (by kernel_rfl) (fun _ _ _ h => h) hT2 (by rfl) ?_
        simp only [Act.put, List.setIfInBounds_toArray, List.set_cons_zero, List.set_cons_succ]
        refine wpF_take 36 (v := ?_) rfl (by kernel_rfl) (by kernel_rfl) (by kernel_rfl) (fun _ _ _ h => h) hT2 (by rfl) ?_ ?_
        rotate_left
        · (intro wq; go_simp; try with_reducible rfl)
        simp only [Act.put, List.setIfInBounds_toArray, List.set_cons_zero, List.set_cons_succ]
        refine wpF_take 37 (v := ?_) rfl (by kernel_rfl) (by kernel_rfl) (by kernel_rfl) (fun _ _ _ h => h) hT2 (by rfl) ?_ ?_
        rotate_left
        · (intro wq; go_simp; try with_reducible rfl)
        simp only [Act.put, List.setIfInBounds_toArray, List.set_cons_zero, List.set_cons_succ]
        refine wpF_done (by kernel_rfl) ?_ _
        have P9 := P.no (((Ext.drew no w2).comp hx5).comp hx16)
        go_wp2_with fail
        go_roundw
        case rel => exact ⟨k + 1, S, M, by omega, by omega, by go_num, by omega, P9.mono (by omega)⟩
        case measure => simp [intOf]; omega
        -->C
      · have dy : w2.cell? ⟨y, 1, none⟩ = some (.int .i64 n) := Jy.cell 1 _ rfl
        go_upto_region 41 with fail
        --<D
        refine wp_region_F [6, 10, 11, 17, 21, 22, 34] (looks [(6, fun z => True), (10, fun z => Ext no w2 z), (11, fun z => Ext no w2 z), (17, fun z => True), (21, fun z => Ext no w2 z), (22, fun z => Ext no w2 z), (34, fun z => Ext no w2 z)]) (by kernel_rfl) ?_
        have hT0 : ∀ k, looks [(6, fun z => True), (10, fun z => Ext no w2 z), (11, fun z => Ext no w2 z), (17, fun z => True), (21, fun z => Ext no w2 z), (22, fun z => Ext no w2 z), (34, fun z => Ext no w2 z)] k (w2.drew) := looks_all ⟨trivial, (Ext.drew no w2), (Ext.drew no w2), trivial, (Ext.drew no w2), (Ext.drew no w2), (Ext.drew no w2), trivial⟩
        refine wpF_take 0 (v := ?_) rfl (by kernel_rfl) (by kernel_rfl) (by kernel_rfl) (fun _ _ _ h => h) hT0 (by rfl) ?_ ?_
        rotate_left
        · (intro wq; go_simp; try with_reducible rfl)
        simp only [Act.put, List.setIfInBounds_toArray, List.set_cons_zero, List.set_cons_succ]
        refine wpF_take 1 (v := ?_) rfl (by kernel_rfl) (by kernel_rfl) (by kernel_rfl) (fun _ _ _ h => h) hT0 (by rfl) ?_ ?_
        rotate_left
        · (intro wq; go_simp; try with_reducible rfl)
        simp only [Act.put, List.setIfInBounds_toArray, List.set_cons_zero, List.set_cons_succ]
        refine wpF_take 2 (v := ?_) rfl (by kernel_rfl) (by kernel_rfl) (by kernel_rfl) (fun _ _ _ h => h) hT0 (by rfl) ?_ ?_
        rotate_left
        · (intro wq; go_simp; try with_reducible rfl)
        simp only [Act.put, List.setIfInBounds_toArray, List.set_cons_zero, List.set_cons_succ]
        refine wpF_take 3 (v := ?_) rfl (by kernel_rfl) (by kernel_rfl) (by kernel_rfl) (fun _ _ _ h => h) hT0 (by rfl) ?_ ?_
        rotate_left
        · (intro wq; go_simp; try with_reducible rfl)
        simp only [Act.put, List.setIfInBounds_toArray, List.set_cons_zero, List.set_cons_succ]
        refine wpF_take 4 (v := ?_) rfl (by kernel_rfl) (by kernel_rfl) (by kernel_rfl) (fun _ _ _ h => h) hT0 (by rfl) ?_ ?_
        rotate_left
        · (intro wq; go_simp; try with_reducible rfl)
        simp only [Act.put, List.setIfInBounds_toArray, List.set_cons_zero, List.set_cons_succ]
        refine wpF_take 7 (v := ?_) rfl (by kernel_rfl) (by kernel_rfl) (by kernel_rfl) (fun _ _ _ h => h) hT0 (by rfl) ?_ ?_
        rotate_left
        · (intro wq; go_simp; try with_reducible rfl)
        simp only [Act.put, List.setIfInBounds_toArray, List.set_cons_zero, List.set_cons_succ]
        refine wpF_take 8 (v := ?_) rfl (by kernel_rfl) (by kernel_rfl) (by kernel_rfl) (fun _ _ _ h => h) hT0 (by rfl) ?_ ?_
        rotate_left
        · (intro wq; go_simp; try with_reducible rfl)
        simp only [Act.put, List.setIfInBounds_toArray, List.set_cons_zero, List.set_cons_succ]
        refine wpF_take 9 (v := ?_) rfl (by kernel_rfl) (by kernel_rfl) (by kernel_rfl) (fun _ _ _ h => h) hT0 (by rfl) ?_ ?_
        rotate_left
        · (intro wq; go_simp; try with_reducible rfl)
        simp only [Act.put, List.setIfInBounds_toArray, List.set_cons_zero, List.set_cons_succ]
        refine wpF_look 10 (v := .slice ra S.log.length rc) rfl rfl (by kernel_rfl) (by kernel_rfl) (by kernel_rfl) (by kernel_rfl) (fun _ _ _ h => h) hT0 (by rfl) (fun w hS => by have hS : Ext no w2 w := hS; have q0 := hS.keeps d1 (fun h => h); go_simp) ?_
        simp only [Act.put, List.setIfInBounds_toArray, List.set_cons_zero, List.set_cons_succ]
        refine wpF_look 11 (v := .string (str S.log)) rfl rfl (by kernel_rfl) (by kernel_rfl) (by kernel_rfl) (by kernel_rfl) (fun _ _ _ h => h) hT0 (by rfl) (fun w hS => by have hS : Ext no w2 w := hS; exact yields_string (by exact Try.underlying22) (by exact Try.underlying5) (by exact Try.underlying9) rfl rfl rfl (hl.1.ext hS (fun _ _ h => h))) ?_
        simp only [Act.put, List.setIfInBounds_toArray, List.set_cons_zero, List.set_cons_succ]
        refine wpF_exec 5 rfl (by kernel_rfl) (by rfl) ?_
        intro K hK
        go_simp
        refine (log_any' (w2.drew) g S M (P.D.no (Ext.drew no w2)) hokS).mono ?_
        rintro e v5 ⟨a5, c5, rfl, ho5, hx5⟩
        have hr5 := ho5.rd
        have hT1 : ∀ k, looks [(6, fun z => Rd z a5 (bs S.log)), (10, fun z => Ext no w2 z), (11, fun z => Ext no w2 z), (17, fun z => True), (21, fun z => Ext no w2 z), (22, fun z => Ext no w2 z), (34, fun z => Ext no w2 z)] k (v5) := looks_all ⟨hr5, ((Ext.drew no w2).comp hx5), ((Ext.drew no w2).comp hx5), trivial, ((Ext.drew no w2).comp hx5), ((Ext.drew no w2).comp hx5), ((Ext.drew no w2).comp hx5), trivial⟩
        refine hK _ _ (looks [(6, fun z => Rd z a5 (bs S.log)), (10, fun z => Ext no w2 z), (11, fun z => Ext no w2 z), (17, fun z => True), (21, fun z => Ext no w2 z), (22, fun z => Ext no w2 z), (34, fun z => Ext no w2 z)]) ⟨.inl (by kernel_rfl), .inr (.inr (fun x h => h)), .inr (.inr (fun x h => h)), .inl (by kernel_rfl), .inl (by kernel_rfl), .inl (by kernel_rfl), .inl (by kernel_rfl), trivial⟩ hT1 ?_
        clear hK K
        try simp only [Act.put, List.setIfInBounds_toArray, List.set_cons_zero, List.set_cons_succ]
        refine wpF_look 6 (v := .string (str S.log)) rfl rfl (by kernel_rfl) (by kernel_rfl) (by kernel_rfl) (by kernel_rfl) (fun _ _ _ h => h) hT1 (by rfl) (fun w hS => by have hS : Rd w a5 (bs S.log) := hS; exact yields_string (by exact Try.underlying22) (by exact Try.underlying5) (by exact Try.underlying9) rfl rfl rfl hS) ?_
        simp only [Act.put, List.setIfInBounds_toArray, List.set_cons_zero, List.set_cons_succ]
        refine wpF_take 12 (v := .bool false) rfl (by kernel_rfl) (by kernel_rfl) (by kernel_rfl) (fun _ _ _ h => h) hT1 (by rfl) (by intro wq; have cs := beqStrT (rfl : S.log = S.log); go_simp) ?_
        simp only [Act.put, List.setIfInBounds_toArray, List.set_cons_zero, List.set_cons_succ]
        refine wpF_take 13 (v := ?_) rfl (by kernel_rfl) (by kernel_rfl) (by kernel_rfl) (fun _ _ _ h => h) hT1 (by rfl) ?_ ?_
        rotate_left
        · (intro wq; go_simp; try with_reducible rfl)
        simp only [Act.put, List.setIfInBounds_toArray, List.set_cons_zero, List.set_cons_succ]
        refine wpF_take 14 (v := ?_) rfl (by kernel_rfl) (by kernel_rfl) (by kernel_rfl) (fun _ _ _ h => h) hT1 (by rfl) ?_ ?_
        rotate_left
        · (intro wq; go_simp; try with_reducible rfl)
        simp only [Act.put, List.setIfInBounds_toArray, List.set_cons_zero, List.set_cons_succ]
        refine wpF_take 15 (v := ?_) rfl (by kernel_rfl) (by kernel_rfl) (by kernel_rfl) (fun _ _ _ h => h) hT1 (by rfl) ?_ ?_
        rotate_left
        · (intro wq; go_simp; try with_reducible rfl)
        simp only [Act.put, List.setIfInBounds_toArray, List.set_cons_zero, List.set_cons_succ]
        refine wpF_take 18 (v := ?_) rfl (by kernel_rfl) (by kernel_rfl) (by kernel_rfl) (fun _ _ _ h => h) hT1 (by rfl) ?_ ?_
        rotate_left
        · (intro wq; go_simp; try with_reducible rfl)
        simp only [Act.put, List.setIfInBounds_toArray, List.set_cons_zero, List.set_cons_succ]
        refine wpF_take 19 (v := ?_) rfl (by kernel_rfl) (by kernel_rfl) (by kernel_rfl) (fun _ _ _ h => h) hT1 (by rfl) ?_ ?_
        rotate_left
        · (intro wq; go_simp; try with_reducible rfl)
        simp only [Act.put, List.setIfInBounds_toArray, List.set_cons_zero, List.set_cons_succ]
        refine wpF_take 20 (v := ?_) rfl (by kernel_rfl) (by kernel_rfl) (by kernel_rfl) (fun _ _ _ h => h) hT1 (by rfl) ?_ ?_
        rotate_left
        · (intro wq; go_simp; try with_reducible rfl)
        simp only [Act.put, List.setIfInBounds_toArray, List.set_cons_zero, List.set_cons_succ]
        refine wpF_look 21 (v := .slice pa S.snap.length pc) rfl rfl (by kernel_rfl) (by kernel_rfl) (by kernel_rfl) (by kernel_rfl) (fun _ _ _ h => h) hT1 (by rfl) (fun w hS => by have hS : Ext no w2 w := hS; have q0 := hS.keeps d3 (fun h => h); go_simp) ?_
        simp only [Act.put, List.setIfInBounds_toArray, List.set_cons_zero, List.set_cons_succ]
        refine wpF_look 22 (v := .string (str S.snap)) rfl rfl (by kernel_rfl) (by kernel_rfl) (by kernel_rfl) (by kernel_rfl) (fun _ _ _ h => h) hT1 (by rfl) (fun w hS => by have hS : Ext no w2 w := hS; exact yields_string (by exact Try.underlying22) (by exact Try.underlying5) (by exact Try.underlying9) rfl rfl rfl (hp.1.ext hS (fun _ _ h => h))) ?_
        simp only [Act.put, List.setIfInBounds_toArray, List.set_cons_zero, List.set_cons_succ]
        refine wpF_exec 16 rfl (by kernel_rfl) (by rfl) ?_
        intro K hK
        go_simp
        refine (snap_any (v5) g S M (P.D.no ((Ext.drew no w2).comp hx5)) hokS).mono ?_
        rintro e v16 ⟨a16, c16, rfl, ho16, hx16⟩
        have hr16 := ho16.rd
        have hT2 : ∀ k, looks [(6, fun z => Rd z a5 (bs S.log)), (10, fun z => Ext no w2 z), (11, fun z => Ext no w2 z), (17, fun z => Rd z a16 (bs S.snap)), (21, fun z => Ext no w2 z), (22, fun z => Ext no w2 z), (34, fun z => Ext no w2 z)] k (v16) := looks_all ⟨(hr5.ext hx16 (fun _ _ h => h)), (((Ext.drew no w2).comp hx5).comp hx16), (((Ext.drew no w2).comp hx5).comp hx16), hr16, (((Ext.drew no w2).comp hx5).comp hx16), (((Ext.drew no w2).comp hx5).comp hx16), (((Ext.drew no w2).comp hx5).comp hx16), trivial⟩
        refine hK _ _ (looks [(6, fun z => Rd z a5 (bs S.log)), (10, fun z => Ext no w2 z), (11, fun z => Ext no w2 z), (17, fun z => Rd z a16 (bs S.snap)), (21, fun z => Ext no w2 z), (22, fun z => Ext no w2 z), (34, fun z => Ext no w2 z)]) ⟨.inr (.inl (by kernel_rfl)), .inr (.inl (by kernel_rfl)), .inr (.inl (by kernel_rfl)), .inl (by kernel_rfl), .inr (.inr (fun x h => h)), .inr (.inr (fun x h => h)), .inl (by kernel_rfl), trivial⟩ hT2 ?_
        clear hK K
        try simp only [Act.put, List.setIfInBounds_toArray, List.set_cons_zero, List.set_cons_succ]
        refine wpF_look 17 (v := .string (str S.snap)) rfl rfl (by kernel_rfl) (by kernel_rfl) (by kernel_rfl) (by kernel_rfl) (fun _ _ _ h => h) hT2 (by rfl) (fun w hS => by have hS : Rd w a16 (bs S.snap) := hS; exact yields_string (by exact Try.underlying22) (by exact Try.underlying5) (by exact Try.underlying9) rfl rfl rfl hS) ?_
        simp only [Act.put, List.setIfInBounds_toArray, List.set_cons_zero, List.set_cons_succ]
        refine wpF_take 23 (v := .bool false) rfl (by kernel_rfl) (by kernel_rfl) (by kernel_rfl) (fun _ _ _ h => h) hT2 (by rfl) (by intro wq; have cs := beqStrT (rfl : S.snap = S.snap); go_simp) ?_
        simp only [Act.put, List.setIfInBounds_toArray, List.set_cons_zero, List.set_cons_succ]
        refine wpF_take 24 (v := ?_) rfl (by kernel_rfl) (by kernel_rfl) (by kernel_rfl) (fun _ _ _ h => h) hT2 (by rfl) ?_ ?_
        rotate_left
        · (intro wq; go_simp; try with_reducible rfl)
        simp only [Act.put, List.setIfInBounds_toArray, List.set_cons_zero, List.set_cons_succ]
        refine wpF_take 25 (v := ?_) rfl (by kernel_rfl) (by kernel_rfl) (by kernel_rfl) (fun _ _ _ h => h) hT2 (by rfl) ?_ ?_
        rotate_left
        · (intro wq; go_simp; try with_reducible rfl)
        simp only [Act.put, List.setIfInBounds_toArray, List.set_cons_zero, List.set_cons_succ]
        refine wpF_take 26 (v := ?_) rfl (by kernel_rfl) (by kernel_rfl) (by kernel_rfl) (fun _ _ _ h => h) hT2 (by rfl) ?_ ?_
        rotate_left
        · (intro wq; go_simp; try with_reducible rfl)
        simp only [Act.put, List.setIfInBounds_toArray, List.set_cons_zero, List.set_cons_succ]
        refine wpF_take 27 (v := ?_) rfl (by kernel_rfl) (by kernel_rfl) (by kernel_rfl) (fun _ _ _ h => h) hT2 (by rfl) ?_ ?_
        rotate_left
        · (intro wq; go_simp; try with_reducible rfl)
        simp only [Act.put, List.setIfInBounds_toArray, List.set_cons_zero, List.set_cons_succ]
        refine wpF_take 28 (v := ?_) rfl (by kernel_rfl) (by kernel_rfl) (by kernel_rfl) (fun _ _ _ h => h) hT2 (by rfl) ?_ ?_
        rotate_left
        · (intro wq; go_simp; try with_reducible rfl)
        simp only [Act.put, List.setIfInBounds_toArray, List.set_cons_zero, List.set_cons_succ]
        refine wpF_take 29 (v := ?_) rfl (by kernel_rfl) (by kernel_rfl) (by kernel_rfl) (fun _ _ _ h => h) hT2 (by rfl) ?_ ?_
        rotate_left
        · (intro wq; go_simp; try with_reducible rfl)
        simp only [Act.put, List.setIfInBounds_toArray, List.set_cons_zero, List.set_cons_succ]
        refine wpF_take 31 (v := ?_) rfl (by kernel_rfl) (by kernel_rfl) (by kernel_rfl) (fun _ _ _ h => h) hT2 (by rfl) ?_ ?_
        rotate_left
        · (intro wq; go_simp; try with_reducible rfl)
        simp only [Act.put, List.setIfInBounds_toArray, List.set_cons_zero, List.set_cons_succ]
        refine wpF_take 32 (v := ?_) rfl (by kernel_rfl) (by kernel_rfl) (by kernel_rfl) (fun _ _ _ h => h) hT2 (by rfl) ?_ ?_
        rotate_left
        · (intro wq; go_simp; try with_reducible rfl)
        simp only [Act.put, List.setIfInBounds_toArray, List.set_cons_zero, List.set_cons_succ]
        refine wpF_take 33 (v := ?_) rfl (by kernel_rfl) (by kernel_rfl) (by kernel_rfl) (fun _ _ _ h => h) hT2 (by rfl) ?_ ?_
        rotate_left
        · (intro wq; go_simp; try with_reducible rfl)
        simp only [Act.put, List.setIfInBounds_toArray, List.set_cons_zero, List.set_cons_succ]
        refine wpF_look 34 (v := .int .i64 n) rfl rfl (by kernel_rfl) (by kernel_rfl) (by kernel_rfl) (by kernel_rfl) (fun _ _ _ h => h) hT2 (by rfl) (fun w hS => by have hS : Ext no w2 w := hS; have q0 := hS.keeps dy (fun h => h); go_simp) ?_
        simp only [Act.put, List.setIfInBounds_toArray, List.set_cons_zero, List.set_cons_succ]
        refine wpF_exec 30 rfl (by kernel_rfl) (by rfl) ?_
        intro K hK
        go_simp
        refine (count_any (v16) g j n (Jj.ext (by simp [jcells]) (((Ext.drew no w2).comp hx5).comp hx16) (fun h => h))).mono ?_
        rintro e v30 ⟨rfl, rfl⟩
        have hT3 : ∀ k, looks [(6, fun z => Rd z a5 (bs S.log)), (10, fun z => Ext no w2 z), (11, fun z => Ext no w2 z), (17, fun z => Rd z a16 (bs S.snap)), (21, fun z => Ext no w2 z), (22, fun z => Ext no w2 z), (34, fun z => Ext no w2 z)] k (v16) := looks_all ⟨(hr5.ext hx16 (fun _ _ h => h)), (((Ext.drew no w2).comp hx5).comp hx16), (((Ext.drew no w2).comp hx5).comp hx16), hr16, (((Ext.drew no w2).comp hx5).comp hx16), (((Ext.drew no w2).comp hx5).comp hx16), (((Ext.drew no w2).comp hx5).comp hx16), trivial⟩
        refine hK _ _ (looks [(6, fun z => Rd z a5 (bs S.log)), (10, fun z => Ext no w2 z), (11, fun z => Ext no w2 z), (17, fun z => Rd z a16 (bs S.snap)), (21, fun z => Ext no w2 z), (22, fun z => Ext no w2 z), (34, fun z => Ext no w2 z)]) ⟨.inr (.inl (by kernel_rfl)), .inr (.inl (by kernel_rfl)), .inr (.inl (by kernel_rfl)), .inr (.inl (by kernel_rfl)), .inr (.inl (by kernel_rfl)), .inr (.inl (by kernel_rfl)), .inr (.inr (fun x h => h)), trivial⟩ hT3 ?_
        clear hK K
        try simp only [Act.put, List.setIfInBounds_toArray, List.set_cons_zero, List.set_cons_succ]
        refine wpF_take 35 (v := ?_) rfl (by kernel_rfl) (by kernel_rfl) (by kernel_rfl) (fun _ _ _ h => h) hT3 (by rfl) ?_ ?_
        rotate_left
        · (intro wq; go_simp; try with_reducible rfl)
        simp only [Act.put, List.setIfInBounds_toArray, List.set_cons_zero, List.set_cons_succ]
        refine wpF_take 36 (v := ?_) rfl (by kernel_rfl) (by kernel_rfl) (by kernel_rfl) (fun _ _ _ h => h) hT3 (by rfl) ?_ ?_
        rotate_left
        · (intro wq; go_simp; try with_reducible rfl)
        simp only [Act.put, List.setIfInBounds_toArray, List.set_cons_zero, List.set_cons_succ]
        refine wpF_take 37 (v := ?_) rfl (by kernel_rfl) (by kernel_rfl) (by kernel_rfl) (fun _ _ _ h => h) hT3 (by rfl) ?_ ?_
        rotate_left
        · (intro wq; go_simp; try with_reducible rfl)
        simp only [Act.put, List.setIfInBounds_toArray, List.set_cons_zero, List.set_cons_succ]
        refine wpF_done (by kernel_rfl) ?_ _
        have P9 := P.no (((Ext.drew no w2).comp hx5).comp hx16)
        go_wp2_with fail
        go_roundw
        case rel => exact ⟨k + 1, S, M, by omega, by omega, by go_num, by omega, P9.mono (by omega)⟩
        case measure => simp [intOf]; omega
        -->D
end Go.Proofs.Ytbmkmbankflbpaa
