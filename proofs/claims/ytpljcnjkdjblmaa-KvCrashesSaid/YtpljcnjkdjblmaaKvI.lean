/- The walk of escrowlaw5.good. -/
import Derived.Test.YtpljcnjkdjblmaaKvH
import Derived.Test.YtpljcnjkdjblmaaKvT
namespace Go.Esc
open Go.RowKit
def gKey (c : ChangeR) : UInt8 := UInt8.ofNat (97 + (IntKind.i64.wrap (c.key.length + c.coll) % 12).toNat)
def goodC (c : ChangeR) : ChangeR := ⟨c.coll % 3, [gKey c], if textOk c.val = true then c.val else [118], c.del⟩
def goodL (l : List ChangeR) : List ChangeR := (l.take 20).map goodC
theorem u8_at' (n : Nat) (h : n < 256) : (UInt8.ofNat n).toNat = n := by simp; omega
theorem wrap_ok (n : Int) : I64ok (IntKind.i64.wrap n) := by
  rw [IntKind.wrap_i64]
  constructor <;> omega
theorem gKey_at (c : ChangeR) : ((gKey c).toNat : Int) = 97 + IntKind.i64.wrap (c.key.length + c.coll) % 12 ∧ (gKey c).toNat < 110 ∧ 97 ≤ (gKey c).toNat := by
  unfold gKey
  have h1 := Int.emod_nonneg (IntKind.i64.wrap (c.key.length + c.coll)) (show (12 : Int) ≠ 0 by omega)
  have h2 := Int.emod_lt_of_pos (IntKind.i64.wrap (c.key.length + c.coll)) (show (0 : Int) < 12 by omega)
  rw [u8_at' _ (by omega)]
  omega
theorem goodC_err (c : ChangeR) : chErr (goodC c) = 0 := by
  have h1 := Int.emod_nonneg c.coll (show (3 : Int) ≠ 0 by omega)
  have h2 := Int.emod_lt_of_pos c.coll (show (0 : Int) < 3 by omega)
  obtain ⟨_, h3, h4⟩ := gKey_at c
  unfold chErr goodC
  simp only
  rw [if_neg (by omega), if_pos]
  refine ⟨?_, by simp, ?_⟩
  · rw [textOk_iff]
    refine ⟨by simp, fun j b hb => ?_⟩
    cases j with
    | zero => simp at hb; subst hb; omega
    | succ j => simp at hb
  · split
    · assumption
    · decide
theorem goodC_ok (c : ChangeR) (h : c.val.length ≤ maxLen) : (goodC c).ok := by
  have h1 := Int.emod_nonneg c.coll (show (3 : Int) ≠ 0 by omega)
  have h2 := Int.emod_lt_of_pos c.coll (show (0 : Int) < 3 by omega)
  refine ⟨⟨by show _ ≤ c.coll % 3; omega, by show c.coll % 3 ≤ _; omega⟩, by show 1 ≤ maxLen; decide, ?_⟩
  show (if textOk c.val = true then c.val else [118]).length ≤ maxLen
  split
  · exact h
  · show 1 ≤ maxLen; decide
theorem goodL_len (l : List ChangeR) : (goodL l).length ≤ 20 := by unfold goodL; rw [List.length_map, List.length_take]; omega
theorem goodL_err (l : List ChangeR) : ∀ c ∈ goodL l, chErr c = 0 := by
  intro c hc
  obtain ⟨d, _, rfl⟩ := List.mem_map.1 hc
  exact goodC_err d
theorem goodL_ok (l : List ChangeR) (h : ∀ c ∈ l, c.ok) : ∀ c ∈ goodL l, c.ok := by
  intro c hc
  obtain ⟨d, hd, rfl⟩ := List.mem_map.1 hc
  exact goodC_ok d (h d (List.mem_of_mem_take hd)).val
end Go.Esc
namespace Go.Proofs.Ytpljcnjkdjblmaa
open Go.RowKit Go.Esc
set_option linter.unusedVariables false
set_option linter.unusedSimpArgs false

set_option maxRecDepth 100000 in
set_option maxHeartbeats 8000000 in
theorem kvgood_any (w : World) (la : Option Addr) (l : List ChangeR) (lc : Nat) (hr : Rd w la (rows ChangeR.cells l)) (hlok : ∀ c ∈ l, c.ok) (hlc : l.length ≤ lc) (hcm : lc ≤ maxLen) :
    Calls Try.prog 22 #[.slice la l.length lc] w fun e w' => ∃ a' c', e = .returned (.slice a' (goodL l).length c') ∧ Own w' w.heap.size a' 4 (goodL l).length c' (rows ChangeR.cells (goodL l)) ∧ Ext no w w' := by
  have Hlok := Lib.hid hlok
  clear hlok
  unfold maxLen at hcm
  obtain ⟨Z, hZ⟩ : ∃ Z, Z = goodL l := ⟨_, rfl⟩
  rw [← hZ]
  have HZ := Lib.hid hZ
  clear hZ
  obtain ⟨B, hB⟩ : ∃ B, B = w.heap.size := ⟨_, rfl⟩
  have hB1 : B ≤ w.heap.size := by omega
  have hB2 : w.heap.size ≤ B := by omega
  clear hB
  go_enter Try.func22, Try.ntmps22
  go_wp2_with fail
  go_loopw [3, 4] (fun s3 s4 wr => ∃ (i : Nat) (G : List ChangeR) (a : Option Addr) (c : Nat), s3 = .slice a G.length c ∧ s4 = .int .i64 i ∧ i ≤ l.length ∧ i ≤ 20 ∧ G = (l.take i).map goodC ∧ Own wr B a 4 G.length c (rows ChangeR.cells G) ∧ Ext no w wr) (fun _ s4 _ => l.length - (intOf s4).toNat)
  case atStart => exact ⟨0, [], none, 0, rfl, rfl, Nat.zero_le _, Nat.zero_le _, rfl, Own.nil _ _ _, Ext.refl _ _⟩
  case round =>
    obtain ⟨i, G, a, c, rfl, rfl, hil, hi20, hG, hown, hW⟩ := hrel
    have hGl : G.length ≤ 20 := by rw [hG, List.length_map, List.length_take]; omega
    have HG := Lib.hid hG
    clear hG
    by_cases hin : i < l.length ∧ i < 20
    · have d1 : decide (i < l.length) = true := decT hin.1
      have d2 : decide ((i : Int) < 20) = true := decT (by omega)
      obtain ⟨x, hxm⟩ : ∃ x, l[i]? = some x := ⟨_, List.getElem?_eq_getElem hin.1⟩
      have hxok := Hlok.out x (List.mem_of_getElem? hxm)
      have hxc := hxok.coll
      have hxk := hxok.key
      have hxv := hxok.val
      have HN := Lib.hid (show G ++ [goodC x] = (l.take (i + 1)).map goodC by rw [List.take_succ_eq_append_getElem hin.1, (List.getElem?_eq_some_iff.1 hxm).2, List.map_append, HG.out]; rfl)
      have hin1 := hin.1
      have hin2 := hin.2
      obtain ⟨ob, off, hsa, _⟩ := rows_shape kChange (by omega) hr (by omega)
      subst hsa
      have hrr := hr.ext hW (fun _ _ h => h)
      have y0 : wr.cell? ⟨ob, off + i * 4, none⟩ = some (.int .i64 x.coll) := rows_cell kChange hrr hxm 0 _ rfl
      have y1 : wr.cell? ⟨ob, off + i * 4 + 1, none⟩ = some (.string (str x.key)) := rows_cell kChange hrr hxm 1 _ rfl
      have y2 : wr.cell? ⟨ob, off + i * 4 + 2, none⟩ = some (.string (str x.val)) := rows_cell kChange hrr hxm 2 _ rfl
      have y3 : wr.cell? ⟨ob, off + i * 4 + 3, none⟩ = some (.bool x.del) := rows_cell kChange hrr hxm 3 _ rfl
      clear hrr hxm hin hxok
      go_upto_region 6 with fail
      have hX := Blk.lit wr #[.int .i64 x.coll, .string (str x.key), .string (str x.val), .bool x.del] 39
      have hxa := Ext.alloc no wr (.cells #[.int .i64 x.coll, .string (str x.key), .string (str x.val), .bool x.del] 39)
      have hzr := hW.size
      have hoB : ∀ ad, a = some ad → ad.block ≠ wr.heap.size := fun ad ha => by
        have := (hown.base ad ha).2.1
        omega
      replace hW := hW.comp hxa
      replace hown := hown.ext hxa (fun _ _ h => h)
      generalize wr.alloc (.cells #[.int .i64 x.coll, .string (str x.key), .string (str x.val), .bool x.del] 39) = w2 at *
      obtain ⟨gx, hgx⟩ : ∃ gx, gx = wr.heap.size := ⟨_, rfl⟩
      have hgx1 : w.heap.size ≤ gx := by omega
      rw [← hgx] at hX hoB ⊢
      clear hgx hxa y0 y1 y2 y3 hzr
      have hXl := hX.lt (by simp)
      have z0 := hX.cell 0 _ rfl
      have z1 := hX.cell 1 _ rfl
      have f0 := hX.fr 0
      have f1 := hX.fr 1
      obtain ⟨K, hK⟩ : ∃ K, K = IntKind.i64.wrap (x.key.length + x.coll) := ⟨_, rfl⟩
      have hKok : I64ok K := by rw [hK]; exact wrap_ok _
      obtain ⟨zb, hz⟩ : ∃ zb, zb = gKey x := ⟨_, rfl⟩
      have hz8 : (zb.toNat : Int) = 97 + K % 12 := by rw [hz, hK]; exact (gKey_at x).1
      have hzk : gKey x = zb := hz.symm
      have HKK := Lib.hid hK
      have Hzk := Lib.hid hzk
      clear hK hz hzk
      have hq0 := Int.emod_nonneg K (show (12 : Int) ≠ 0 by omega)
      have hq1 := Int.emod_lt_of_pos K (show (0 : Int) < 12 by omega)
      have kc3 : ∀ w, Calls Try.prog 11 #[.int .i64 x.coll, .int .i64 3] w fun e w' => e = .returned (.int .i64 (x.coll % 3)) ∧ w = w' := fun w => kvwithin_any x.coll 3 w (by omega) (by omega) hxc
      have kc12 : ∀ w, Calls Try.prog 11 #[.int .i64 K, .int .i64 12] w fun e w' => e = .returned (.int .i64 (K % 12)) ∧ w = w' := fun w => kvwithin_any K 12 w (by omega) (by omega) hKok
      obtain ⟨c3, hc3⟩ : ∃ c3, c3 = x.coll % 3 := ⟨_, rfl⟩
      have Hc3 := Lib.hid hc3
      rw [← hc3] at kc3
      clear hc3
      generalize K % 12 = q at *
      refine wp_region_F [1, 4, 7, 13] (looks [(1, fun z => Ext no w2 z), (4, fun z => Ext no w2 z), (7, fun z => Ext no w2 z), (13, fun z => True)]) (by kernel_rfl) ?_
      have hT0 : ∀ k, looks [(1, fun z => Ext no w2 z), (4, fun z => Ext no w2 z), (7, fun z => Ext no w2 z), (13, fun z => True)] k (w2.drew) := looks_all ⟨(Ext.drew no w2), (Ext.drew no w2), (Ext.drew no w2), trivial, trivial⟩
      refine wpF_take 0 (v := ?_) rfl (by kernel_rfl) (by kernel_rfl) (by kernel_rfl) (fun _ _ _ h => h) hT0 (by rfl) ?_ ?_
      rotate_left
      · (intro wq; go_simp; try with_reducible rfl)
      simp only [Act.put, List.setIfInBounds_toArray, List.set_cons_zero, List.set_cons_succ]
      refine wpF_look 1 (v := .int .i64 x.coll) rfl rfl (by kernel_rfl) (by kernel_rfl) (by kernel_rfl) (by kernel_rfl) (fun _ _ _ h => h) hT0 (by rfl) (fun w hS => by have hS : Ext no w2 w := hS; have q0 := hS.keeps z0 (fun h => h); go_simp) ?_
      simp only [Act.put, List.setIfInBounds_toArray, List.set_cons_zero, List.set_cons_succ]
      refine wpF_call 2 (v := .int .i64 c3) 11 #[.int .i64 x.coll, .int .i64 3] rfl (by kernel_rfl) (by kernel_rfl) (by kernel_rfl) (fun _ _ _ h => h) hT0 (by rfl) (by intro wq; go_simp; try with_reducible rfl) (kc3) ?_
      simp only [Act.put, List.setIfInBounds_toArray, List.set_cons_zero, List.set_cons_succ]
      refine wpF_take 3 (v := ?_) rfl (by kernel_rfl) (by kernel_rfl) (by kernel_rfl) (fun _ _ _ h => h) hT0 (by rfl) ?_ ?_
      rotate_left
      · (intro wq; go_simp; try with_reducible rfl)
      simp only [Act.put, List.setIfInBounds_toArray, List.set_cons_zero, List.set_cons_succ]
      refine wpF_look 4 (v := .string (str x.key)) rfl rfl (by kernel_rfl) (by kernel_rfl) (by kernel_rfl) (by kernel_rfl) (fun _ _ _ h => h) hT0 (by rfl) (fun w hS => by have hS : Ext no w2 w := hS; have q0 := hS.keeps z1 (fun h => h); go_simp) ?_
      simp only [Act.put, List.setIfInBounds_toArray, List.set_cons_zero, List.set_cons_succ]
      refine wpF_take 5 (v := .int .i64 (x.key.length : Nat)) rfl (by kernel_rfl) (by kernel_rfl) (by kernel_rfl) (fun _ _ _ h => h) hT0 (by rfl) (by intro wq; go_simp; rw [str_size]) ?_
      simp only [Act.put, List.setIfInBounds_toArray, List.set_cons_zero, List.set_cons_succ]
      refine wpF_take 6 (v := ?_) rfl (by kernel_rfl) (by kernel_rfl) (by kernel_rfl) (fun _ _ _ h => h) hT0 (by rfl) ?_ ?_
      rotate_left
      · (intro wq; go_simp; try with_reducible rfl)
      simp only [Act.put, List.setIfInBounds_toArray, List.set_cons_zero, List.set_cons_succ]
      refine wpF_look 7 (v := .int .i64 x.coll) rfl rfl (by kernel_rfl) (by kernel_rfl) (by kernel_rfl) (by kernel_rfl) (fun _ _ _ h => h) hT0 (by rfl) (fun w hS => by have hS : Ext no w2 w := hS; have q0 := hS.keeps z0 (fun h => h); go_simp) ?_
      simp only [Act.put, List.setIfInBounds_toArray, List.set_cons_zero, List.set_cons_succ]
      refine wpF_take 8 (v := .int .i64 K) rfl (by kernel_rfl) (by kernel_rfl) (by kernel_rfl) (fun _ _ _ h => h) hT0 (by rfl) (by intro wq; go_simp; rw [HKK.out]) ?_
      simp only [Act.put, List.setIfInBounds_toArray, List.set_cons_zero, List.set_cons_succ]
      refine wpF_call 9 (v := .int .i64 q) 11 #[.int .i64 K, .int .i64 12] rfl (by kernel_rfl) (by kernel_rfl) (by kernel_rfl) (fun _ _ _ h => h) hT0 (by rfl) (by intro wq; go_simp; try with_reducible rfl) (kc12) ?_
      simp only [Act.put, List.setIfInBounds_toArray, List.set_cons_zero, List.set_cons_succ]
      refine wpF_take 10 (v := .int .i64 (97 + q)) rfl (by kernel_rfl) (by kernel_rfl) (by kernel_rfl) (fun _ _ _ h => h) hT0 (by rfl) (by intro wq; go_simp; first | done | (rw [IntKind.wrap_i64]; omega)) ?_
      simp only [Act.put, List.setIfInBounds_toArray, List.set_cons_zero, List.set_cons_succ]
      refine wpF_take 11 (v := .int .u8 (97 + q)) rfl (by kernel_rfl) (by kernel_rfl) (by kernel_rfl) (fun _ _ _ h => h) hT0 (by rfl) (by intro wq; go_simp; first | done | (rw [IntKind.wrap_u8]; omega)) ?_
      simp only [Act.put, List.setIfInBounds_toArray, List.set_cons_zero, List.set_cons_succ]
      refine wpF_take 14 (v := ?_) rfl (by kernel_rfl) (by kernel_rfl) (by kernel_rfl) (fun _ _ _ h => h) hT0 (by rfl) ?_ ?_
      rotate_left
      · (intro wq; go_simp; try with_reducible rfl)
      simp only [Act.put, List.setIfInBounds_toArray, List.set_cons_zero, List.set_cons_succ]
      refine wpF_execs [12, 15] (by kernel_rfl) (by simp) ?_
      intro j hj
      simp only [List.mem_cons, List.not_mem_nil, or_false] at hj
      rcases hj with rfl | rfl
      · refine ⟨_, rfl, by rfl, ?_⟩
        intro K hK
        go_simp
        have hxA : Ext no w2 ((w2.alloc (.cells #[.int .u8 (97 + q)] 5)).drew) := (Ext.alloc no w2 _).comp (Ext.drew no _)
        have bA := (hX).ext (by simp) hxA (fun h => h)
        have eA : Ext (just gx) w2 ((w2.alloc (.cells #[.int .u8 (97 + q)] 5)).drew) := hxA.mono (fun _ _ h => h.elim)
        have xA : Ext no w2 ((w2.alloc (.cells #[.int .u8 (97 + q)] 5)).drew) := hxA
        have rA : Rd ((w2.alloc (.cells #[.int .u8 (97 + q)] 5)).drew) (some ⟨w2.heap.size, 0, none⟩) (bs [zb]) := by have q := Rd.lit w2 #[.int .u8 (97 + q)] 5 (0, 0); rw [← hz8] at q ⊢; exact q.drew
        have hlA := (hX).lt (by simp)
        obtain ⟨gA, hgA⟩ : ∃ gA, gA = w2.heap.size := ⟨_, rfl⟩
        have hgA1 : gx < gA := by omega
        rw [← hgA] at rA ⊢
        generalize (w2.alloc (.cells #[.int .u8 (97 + q)] 5)).drew = wA at *
        clear hgA hxA hlA
        have hT1 : ∀ k, looks [(1, fun z => Ext no w2 z), (4, fun z => Ext no w2 z), (7, fun z => Ext no w2 z), (13, fun z => Rd z (some ⟨gA, 0, none⟩) (bs [zb]))] k (wA) := looks_all ⟨xA, xA, xA, rA, trivial⟩
        refine hK _ _ (looks [(1, fun z => Ext no w2 z), (4, fun z => Ext no w2 z), (7, fun z => Ext no w2 z), (13, fun z => Rd z (some ⟨gA, 0, none⟩) (bs [zb]))]) ⟨.inr (.inl (by kernel_rfl)), .inr (.inl (by kernel_rfl)), .inr (.inl (by kernel_rfl)), .inl (by kernel_rfl), trivial⟩ hT1 ?_
        clear hK K
        try simp only [Act.put, List.setIfInBounds_toArray, List.set_cons_zero, List.set_cons_succ]
        refine wpF_look 13 (v := .string (str [zb])) rfl rfl (by kernel_rfl) (by kernel_rfl) (by kernel_rfl) (by kernel_rfl) (fun _ _ _ h => h) hT1 (by rfl) (fun w hS => by have hS : Rd w (some ⟨gA, 0, none⟩) (bs [zb]) := hS; have q := convStr w (some ⟨gA, 0, none⟩) 1 1 [zb] rfl hS; go_simp) ?_
        simp only [Act.put, List.setIfInBounds_toArray, List.set_cons_zero, List.set_cons_succ]
        refine wpF_exec 15 rfl (by kernel_rfl) (by rfl) ?_
        intro K hK
        have fa0 := (bA).fr 0
        have ca0 := (bA).cell 0 _ rfl
        have bS := (bA).set 0 (.int .i64 c3) (by simp)
        have eS : Ext (just gx) w2 ((wA).setCell ⟨gx, 0, none⟩ (.int .i64 c3)) := (eA).comp (Ext.setCell (S := just gx) wA ⟨gx, 0, none⟩ (.int .i64 c3) rfl)
        have rS := (rA).ext (Ext.setCell (S := just gx) wA ⟨gx, 0, none⟩ (.int .i64 c3) rfl) (fun ad h e => by cases h; have e : gA = gx := e; omega)
        go_simp
        generalize (wA).setCell ⟨gx, 0, none⟩ (.int .i64 c3) = wS at *
        clear fa0 ca0
        have hT2 : ∀ k, looks [(1, fun z => True), (4, fun z => True), (7, fun z => True), (13, fun z => Rd z (some ⟨gA, 0, none⟩) (bs [zb]))] k (wS) := looks_all ⟨trivial, trivial, trivial, rS, trivial⟩
        refine hK _ _ (looks [(1, fun z => True), (4, fun z => True), (7, fun z => True), (13, fun z => Rd z (some ⟨gA, 0, none⟩) (bs [zb]))]) ⟨.inr (.inl (by kernel_rfl)), .inr (.inl (by kernel_rfl)), .inr (.inl (by kernel_rfl)), .inr (.inr (fun x h => h)), trivial⟩ hT2 ?_
        clear hK K
        try simp only [Act.put, List.setIfInBounds_toArray, List.set_cons_zero, List.set_cons_succ]
        refine wpF_take 16 (v := ?_) rfl (by kernel_rfl) (by kernel_rfl) (by kernel_rfl) (fun _ _ _ h => h) hT2 (by rfl) ?_ ?_
        rotate_left
        · (intro wq; go_simp; try with_reducible rfl)
        simp only [Act.put, List.setIfInBounds_toArray, List.set_cons_zero, List.set_cons_succ]
        refine wpF_exec 17 rfl (by kernel_rfl) (by rfl) ?_
        intro K hK
        have fa1 := (bS).fr 1
        have ca1 := (bS).cell 1 _ rfl
        have bZ := (bS).set 1 (.string (str [zb])) (by simp)
        have eZ : Ext (just gx) w2 ((wS).setCell ⟨gx, 1, none⟩ (.string (str [zb]))) := (eS).comp (Ext.setCell (S := just gx) wS ⟨gx, 1, none⟩ (.string (str [zb])) rfl)
        have rZ := (rS).ext (Ext.setCell (S := just gx) wS ⟨gx, 1, none⟩ (.string (str [zb])) rfl) (fun ad h e => by cases h; have e : gA = gx := e; omega)
        go_simp
        generalize (wS).setCell ⟨gx, 1, none⟩ (.string (str [zb])) = wZ at *
        clear fa1 ca1
        have hT3 : ∀ k, looks [(1, fun z => True), (4, fun z => True), (7, fun z => True), (13, fun z => True)] k (wZ) := looks_all ⟨trivial, trivial, trivial, trivial, trivial⟩
        refine hK _ _ (looks [(1, fun z => True), (4, fun z => True), (7, fun z => True), (13, fun z => True)]) ⟨.inr (.inl (by kernel_rfl)), .inr (.inl (by kernel_rfl)), .inr (.inl (by kernel_rfl)), .inr (.inl (by kernel_rfl)), trivial⟩ hT3 ?_
        clear hK K
        try simp only [Act.put, List.setIfInBounds_toArray, List.set_cons_zero, List.set_cons_succ]
        refine wpF_done (by kernel_rfl) ?_ _
        have bF := bZ
        have eF := eZ
        have hoF := hown.ext eF (fun ad ha hh => hoB ad ha hh)
        have hWF := hW.trans eF (fun k hk hh => by have hh : k = gx := hh; omega)
        clear hX hown hW kc3 kc12
        clear z0 z1 f0 f1
        generalize wZ = wF at *
        have v2 := bF.cell 2 _ rfl
        go_wp2_with fail
        refine (reftext_any wF x.val hxv).mono ?_
        rintro e _ ⟨rfl, rfl⟩
        cases tv : textOk x.val with
        | true =>
          have hgC : goodC x = (⟨c3, [zb], x.val, x.del⟩ : ChangeR) := by unfold goodC; rw [Hzk.out, tv]; rw [← Hc3.out]; rfl
          have HgC := Lib.hid hgC
          clear hgC
          clear v2
          have u0 := bF.cell 0 _ rfl
          have u1 := bF.cell 1 _ rfl
          have u2 := bF.cell 2 _ rfl
          have u3 := bF.cell 3 _ rfl
          have hX1 : Rd (wF.alloc (.cells #[.int .i64 c3, .string (str [zb]), .string (str x.val), .bool x.del] 39)) (some ⟨wF.heap.size, 0, none⟩) (ChangeR.cells (⟨c3, [zb], x.val, x.del⟩ : ChangeR)) := Rd.lit wF #[.int .i64 c3, .string (str [zb]), .string (str x.val), .bool x.del] _ _
          have hzB := hWF.size
          go_wp2_with (at_builtin; refine wpList_append TChange rfl rfl rfl (hoF.alloc _) rfl hX1 rfl (one1Change _) ?c1 ?c2 ?c3 ?_)
          case c1 => unfold maxLen; omega
          case c2 => omega
          case c3 => first | omega | (simp; omega)
          intro a' c' w5 hp
          have ho : Own w5 B a' 4 (G.length + 1) c' (rows ChangeR.cells (G ++ [(⟨c3, [zb], x.val, x.del⟩ : ChangeR)])) := by have q := hp.own; rw [rows_append, rows_one]; exact q
          have hx5 : Ext no w w5 := (hWF.comp (Ext.alloc no wF (.cells #[.int .i64 c3, .string (str [zb]), .string (str x.val), .bool x.del] 39))).trans hp.ext (fun k hk => by rintro ⟨ad, h, hh⟩; have := (hoF.base ad h).1; omega)
          have HN5 := Lib.hid (show G ++ [(⟨c3, [zb], x.val, x.del⟩ : ChangeR)] = (l.take (i + 1)).map goodC by rw [← HgC.out]; exact HN.out)
          clear hp hX1 hoF hWF u0 u1 u2 u3
          go_wp2_with fail
          go_roundw
          case rel => exact ⟨i + 1, G ++ [(⟨c3, [zb], x.val, x.del⟩ : ChangeR)], a', c', by rw [List.length_append]; rfl, by go_num, by omega, by omega, HN5.out, by rw [List.length_append]; exact ho, hx5⟩
          case measure => simp [intOf]; omega
        | false =>
          have hgC : goodC x = (⟨c3, [zb], [118], x.del⟩ : ChangeR) := by unfold goodC; rw [Hzk.out, tv]; rw [← Hc3.out]; rfl
          have HgC := Lib.hid hgC
          clear hgC
          have fv := bF.fr 2
          go_upto_region 9 with fail
          have bG := bF.set 2 (.string { data := #[118] }) (by simp)
          have xG : Ext (just gx) wF (wF.setCell ⟨gx, 2, none⟩ (.string { data := #[118] })) := Ext.setCell _ _ _ rfl
          replace hoF := hoF.ext xG (fun ad ha hh => hoB ad ha hh)
          replace hWF := hWF.trans xG (fun k hk hh => by have hh : k = gx := hh; omega)
          clear v2 fv xG bF
          generalize wF.setCell ⟨gx, 2, none⟩ (.string { data := #[118] }) = wG at *
          have u0 := bG.cell 0 _ rfl
          have u1 := bG.cell 1 _ rfl
          have u2 := bG.cell 2 _ rfl
          have u3 := bG.cell 3 _ rfl
          have hX1 : Rd (wG.alloc (.cells #[.int .i64 c3, .string (str [zb]), .string { data := #[118] }, .bool x.del] 39)) (some ⟨wG.heap.size, 0, none⟩) (ChangeR.cells (⟨c3, [zb], [118], x.del⟩ : ChangeR)) := Rd.lit wG #[.int .i64 c3, .string (str [zb]), .string { data := #[118] }, .bool x.del] _ _
          have hzB := hWF.size
          go_wp2_with (at_builtin; refine wpList_append TChange rfl rfl rfl (hoF.alloc _) rfl hX1 rfl (one1Change _) ?c1 ?c2 ?c3 ?_)
          case c1 => unfold maxLen; omega
          case c2 => omega
          case c3 => first | omega | (simp; omega)
          intro a' c' w5 hp
          have ho : Own w5 B a' 4 (G.length + 1) c' (rows ChangeR.cells (G ++ [(⟨c3, [zb], [118], x.del⟩ : ChangeR)])) := by have q := hp.own; rw [rows_append, rows_one]; exact q
          have hx5 : Ext no w w5 := (hWF.comp (Ext.alloc no wG (.cells #[.int .i64 c3, .string (str [zb]), .string { data := #[118] }, .bool x.del] 39))).trans hp.ext (fun k hk => by rintro ⟨ad, h, hh⟩; have := (hoF.base ad h).1; omega)
          have HN5 := Lib.hid (show G ++ [(⟨c3, [zb], [118], x.del⟩ : ChangeR)] = (l.take (i + 1)).map goodC by rw [← HgC.out]; exact HN.out)
          clear hp hX1 hoF hWF u0 u1 u2 u3
          go_wp2_with fail
          go_roundw
          case rel => exact ⟨i + 1, G ++ [(⟨c3, [zb], [118], x.del⟩ : ChangeR)], a', c', by rw [List.length_append]; rfl, by go_num, by omega, by omega, HN5.out, by rw [List.length_append]; exact ho, hx5⟩
          case measure => simp [intOf]; omega
      · refine ⟨_, rfl, by rfl, ?_⟩
        intro K hK
        have fa0 := (hX).fr 0
        have ca0 := (hX).cell 0 _ rfl
        have bS := (hX).set 0 (.int .i64 c3) (by simp)
        replace bS := bS.drew
        have eS : Ext (just gx) w2 ((w2.setCell ⟨gx, 0, none⟩ (.int .i64 c3)).drew) := (Ext.setCell (S := just gx) w2 ⟨gx, 0, none⟩ (.int .i64 c3) rfl).comp (Ext.drew _ _)
        go_simp
        generalize (w2.setCell ⟨gx, 0, none⟩ (.int .i64 c3)).drew = wS at *
        clear fa0 ca0
        have hT1 : ∀ k, looks [(1, fun z => True), (4, fun z => True), (7, fun z => True), (13, fun z => True)] k (wS) := looks_all ⟨trivial, trivial, trivial, trivial, trivial⟩
        refine hK _ _ (looks [(1, fun z => True), (4, fun z => True), (7, fun z => True), (13, fun z => True)]) ⟨.inr (.inl (by kernel_rfl)), .inr (.inl (by kernel_rfl)), .inr (.inl (by kernel_rfl)), .inl (by kernel_rfl), trivial⟩ hT1 ?_
        clear hK K
        try simp only [Act.put, List.setIfInBounds_toArray, List.set_cons_zero, List.set_cons_succ]
        refine wpF_exec 12 rfl (by kernel_rfl) (by rfl) ?_
        intro K hK
        go_simp
        have hxA : Ext no wS ((wS).alloc (.cells #[.int .u8 (97 + q)] 5)) := Ext.alloc no _ _
        have bA := (bS).ext (by simp) hxA (fun h => h)
        have eA : Ext (just gx) w2 ((wS).alloc (.cells #[.int .u8 (97 + q)] 5)) := (eS).comp (hxA.mono (fun _ _ h => h.elim))
        have rA : Rd ((wS).alloc (.cells #[.int .u8 (97 + q)] 5)) (some ⟨wS.heap.size, 0, none⟩) (bs [zb]) := by have q := Rd.lit wS #[.int .u8 (97 + q)] 5 (0, 0); rw [← hz8] at q ⊢; exact q
        have hlA := (bS).lt (by simp)
        obtain ⟨gA, hgA⟩ : ∃ gA, gA = wS.heap.size := ⟨_, rfl⟩
        have hgA1 : gx < gA := by omega
        rw [← hgA] at rA ⊢
        generalize (wS).alloc (.cells #[.int .u8 (97 + q)] 5) = wA at *
        clear hgA hxA hlA
        have hT2 : ∀ k, looks [(1, fun z => True), (4, fun z => True), (7, fun z => True), (13, fun z => Rd z (some ⟨gA, 0, none⟩) (bs [zb]))] k (wA) := looks_all ⟨trivial, trivial, trivial, rA, trivial⟩
        refine hK _ _ (looks [(1, fun z => True), (4, fun z => True), (7, fun z => True), (13, fun z => Rd z (some ⟨gA, 0, none⟩) (bs [zb]))]) ⟨.inr (.inl (by kernel_rfl)), .inr (.inl (by kernel_rfl)), .inr (.inl (by kernel_rfl)), .inl (by kernel_rfl), trivial⟩ hT2 ?_
        clear hK K
        try simp only [Act.put, List.setIfInBounds_toArray, List.set_cons_zero, List.set_cons_succ]
        refine wpF_look 13 (v := .string (str [zb])) rfl rfl (by kernel_rfl) (by kernel_rfl) (by kernel_rfl) (by kernel_rfl) (fun _ _ _ h => h) hT2 (by rfl) (fun w hS => by have hS : Rd w (some ⟨gA, 0, none⟩) (bs [zb]) := hS; have q := convStr w (some ⟨gA, 0, none⟩) 1 1 [zb] rfl hS; go_simp) ?_
        simp only [Act.put, List.setIfInBounds_toArray, List.set_cons_zero, List.set_cons_succ]
        refine wpF_take 16 (v := ?_) rfl (by kernel_rfl) (by kernel_rfl) (by kernel_rfl) (fun _ _ _ h => h) hT2 (by rfl) ?_ ?_
        rotate_left
        · (intro wq; go_simp; try with_reducible rfl)
        simp only [Act.put, List.setIfInBounds_toArray, List.set_cons_zero, List.set_cons_succ]
        refine wpF_exec 17 rfl (by kernel_rfl) (by rfl) ?_
        intro K hK
        have fa1 := (bA).fr 1
        have ca1 := (bA).cell 1 _ rfl
        have bZ := (bA).set 1 (.string (str [zb])) (by simp)
        have eZ : Ext (just gx) w2 ((wA).setCell ⟨gx, 1, none⟩ (.string (str [zb]))) := (eA).comp (Ext.setCell (S := just gx) wA ⟨gx, 1, none⟩ (.string (str [zb])) rfl)
        have rZ := (rA).ext (Ext.setCell (S := just gx) wA ⟨gx, 1, none⟩ (.string (str [zb])) rfl) (fun ad h e => by cases h; have e : gA = gx := e; omega)
        go_simp
        generalize (wA).setCell ⟨gx, 1, none⟩ (.string (str [zb])) = wZ at *
        clear fa1 ca1
        have hT3 : ∀ k, looks [(1, fun z => True), (4, fun z => True), (7, fun z => True), (13, fun z => True)] k (wZ) := looks_all ⟨trivial, trivial, trivial, trivial, trivial⟩
        refine hK _ _ (looks [(1, fun z => True), (4, fun z => True), (7, fun z => True), (13, fun z => True)]) ⟨.inr (.inl (by kernel_rfl)), .inr (.inl (by kernel_rfl)), .inr (.inl (by kernel_rfl)), .inr (.inl (by kernel_rfl)), trivial⟩ hT3 ?_
        clear hK K
        try simp only [Act.put, List.setIfInBounds_toArray, List.set_cons_zero, List.set_cons_succ]
        refine wpF_done (by kernel_rfl) ?_ _
        have bF := bZ
        have eF := eZ
        have hoF := hown.ext eF (fun ad ha hh => hoB ad ha hh)
        have hWF := hW.trans eF (fun k hk hh => by have hh : k = gx := hh; omega)
        clear hX hown hW kc3 kc12
        clear z0 z1 f0 f1
        generalize wZ = wF at *
        have v2 := bF.cell 2 _ rfl
        go_wp2_with fail
        refine (reftext_any wF x.val hxv).mono ?_
        rintro e _ ⟨rfl, rfl⟩
        cases tv : textOk x.val with
        | true =>
          have hgC : goodC x = (⟨c3, [zb], x.val, x.del⟩ : ChangeR) := by unfold goodC; rw [Hzk.out, tv]; rw [← Hc3.out]; rfl
          have HgC := Lib.hid hgC
          clear hgC
          clear v2
          have u0 := bF.cell 0 _ rfl
          have u1 := bF.cell 1 _ rfl
          have u2 := bF.cell 2 _ rfl
          have u3 := bF.cell 3 _ rfl
          have hX1 : Rd (wF.alloc (.cells #[.int .i64 c3, .string (str [zb]), .string (str x.val), .bool x.del] 39)) (some ⟨wF.heap.size, 0, none⟩) (ChangeR.cells (⟨c3, [zb], x.val, x.del⟩ : ChangeR)) := Rd.lit wF #[.int .i64 c3, .string (str [zb]), .string (str x.val), .bool x.del] _ _
          have hzB := hWF.size
          go_wp2_with (at_builtin; refine wpList_append TChange rfl rfl rfl (hoF.alloc _) rfl hX1 rfl (one1Change _) ?c1 ?c2 ?c3 ?_)
          case c1 => unfold maxLen; omega
          case c2 => omega
          case c3 => first | omega | (simp; omega)
          intro a' c' w5 hp
          have ho : Own w5 B a' 4 (G.length + 1) c' (rows ChangeR.cells (G ++ [(⟨c3, [zb], x.val, x.del⟩ : ChangeR)])) := by have q := hp.own; rw [rows_append, rows_one]; exact q
          have hx5 : Ext no w w5 := (hWF.comp (Ext.alloc no wF (.cells #[.int .i64 c3, .string (str [zb]), .string (str x.val), .bool x.del] 39))).trans hp.ext (fun k hk => by rintro ⟨ad, h, hh⟩; have := (hoF.base ad h).1; omega)
          have HN5 := Lib.hid (show G ++ [(⟨c3, [zb], x.val, x.del⟩ : ChangeR)] = (l.take (i + 1)).map goodC by rw [← HgC.out]; exact HN.out)
          clear hp hX1 hoF hWF u0 u1 u2 u3
          go_wp2_with fail
          go_roundw
          case rel => exact ⟨i + 1, G ++ [(⟨c3, [zb], x.val, x.del⟩ : ChangeR)], a', c', by rw [List.length_append]; rfl, by go_num, by omega, by omega, HN5.out, by rw [List.length_append]; exact ho, hx5⟩
          case measure => simp [intOf]; omega
        | false =>
          have hgC : goodC x = (⟨c3, [zb], [118], x.del⟩ : ChangeR) := by unfold goodC; rw [Hzk.out, tv]; rw [← Hc3.out]; rfl
          have HgC := Lib.hid hgC
          clear hgC
          have fv := bF.fr 2
          go_upto_region 9 with fail
          have bG := bF.set 2 (.string { data := #[118] }) (by simp)
          have xG : Ext (just gx) wF (wF.setCell ⟨gx, 2, none⟩ (.string { data := #[118] })) := Ext.setCell _ _ _ rfl
          replace hoF := hoF.ext xG (fun ad ha hh => hoB ad ha hh)
          replace hWF := hWF.trans xG (fun k hk hh => by have hh : k = gx := hh; omega)
          clear v2 fv xG bF
          generalize wF.setCell ⟨gx, 2, none⟩ (.string { data := #[118] }) = wG at *
          have u0 := bG.cell 0 _ rfl
          have u1 := bG.cell 1 _ rfl
          have u2 := bG.cell 2 _ rfl
          have u3 := bG.cell 3 _ rfl
          have hX1 : Rd (wG.alloc (.cells #[.int .i64 c3, .string (str [zb]), .string { data := #[118] }, .bool x.del] 39)) (some ⟨wG.heap.size, 0, none⟩) (ChangeR.cells (⟨c3, [zb], [118], x.del⟩ : ChangeR)) := Rd.lit wG #[.int .i64 c3, .string (str [zb]), .string { data := #[118] }, .bool x.del] _ _
          have hzB := hWF.size
          go_wp2_with (at_builtin; refine wpList_append TChange rfl rfl rfl (hoF.alloc _) rfl hX1 rfl (one1Change _) ?c1 ?c2 ?c3 ?_)
          case c1 => unfold maxLen; omega
          case c2 => omega
          case c3 => first | omega | (simp; omega)
          intro a' c' w5 hp
          have ho : Own w5 B a' 4 (G.length + 1) c' (rows ChangeR.cells (G ++ [(⟨c3, [zb], [118], x.del⟩ : ChangeR)])) := by have q := hp.own; rw [rows_append, rows_one]; exact q
          have hx5 : Ext no w w5 := (hWF.comp (Ext.alloc no wG (.cells #[.int .i64 c3, .string (str [zb]), .string { data := #[118] }, .bool x.del] 39))).trans hp.ext (fun k hk => by rintro ⟨ad, h, hh⟩; have := (hoF.base ad h).1; omega)
          have HN5 := Lib.hid (show G ++ [(⟨c3, [zb], [118], x.del⟩ : ChangeR)] = (l.take (i + 1)).map goodC by rw [← HgC.out]; exact HN.out)
          clear hp hX1 hoF hWF u0 u1 u2 u3
          go_wp2_with fail
          go_roundw
          case rel => exact ⟨i + 1, G ++ [(⟨c3, [zb], [118], x.del⟩ : ChangeR)], a', c', by rw [List.length_append]; rfl, by go_num, by omega, by omega, HN5.out, by rw [List.length_append]; exact ho, hx5⟩
          case measure => simp [intOf]; omega
    · have hend : i = l.length ∨ (i < l.length ∧ i = 20) := by omega
      have hZE := Lib.hid (show Z = G by
        rw [HZ.out, HG.out]
        unfold goodL
        rcases hend with h | h
        · rw [List.take_of_length_le (by omega), List.take_of_length_le (by omega)]
        · rw [h.2])
      rcases hend with h | h
      · have d1 : decide (i < l.length) = false := decF (by omega)
        clear h
        go_wp2_with fail
        go_ret
        exact ⟨a, c, by rw [hZE.out]; rfl, by rw [hZE.out]; exact hown.mono hB2, hW⟩
      · have d1 : decide (i < l.length) = true := decT h.1
        have d2 : decide ((i : Int) < 20) = false := decF (by omega)
        clear h
        go_wp2_with fail
        go_ret
        exact ⟨a, c, by rw [hZE.out]; rfl, by rw [hZE.out]; exact hown.mono hB2, hW⟩
end Go.Proofs.Ytpljcnjkdjblmaa
