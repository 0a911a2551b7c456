/- The walk of WireBounds. -/
import Derived.Test.YtddobhihjljcgaaWiBd
import Derived.Test.YtddobhihjljcgaaWiO
namespace Go.Proofs.Ytddobhihjljcgaa
open Go.RowKit Go.Esc
set_option linter.unusedVariables false
set_option linter.unusedSimpArgs false
/-- What is left to say of a message M of so many rows. -/
structure BmEnd (N wt : Int) (M : MsgR) : Prop where
  ok : M.ok
  few : M.few
  bad : 1 < N → (bytesErr M : Int) = wt ∧ wt ≠ 0
  good : N ≤ 1 → bytesErr M = 0 ∧ (∃ B, bytesOf M = B ∧ B.length ≤ 1099511627776 ∧ parseErr B = 0 ∧ parseMsg B = named M) ∧ Twin (named M) M ∧ sameP (named M) M ∧ Short (named M)
theorem sameP_named (M : MsgR) : sameP (named M) M := by
  have hk : (named M).kind = M.kind := by unfold named; simp only; repeat (first | rfl | split)
  have hd : (named M).dev = M.dev := by unfold named; simp only; repeat (first | rfl | split)
  refine ⟨hd, fun h => ?_, fun h => ?_, fun h => ?_, fun h => ?_, fun h => ?_⟩ <;> rw [hk] at h
  · unfold named; simp only [h, if_true]; exact ⟨rfl, rfl, rfl, rfl, rfl⟩
  · unfold named; simp [h]; exact ⟨rfl, rfl, rfl, rfl, rfl, rfl⟩
  · unfold named; simp [h]
  · unfold named; simp [h]
  · unfold named; simp [h]
theorem bm_end {N wt : Int} {k : Int} {T : List Bool} {W O S I U P : Nat} (hk : 1 < N ∨ (1 ≤ k ∧ k ≤ 5)) (hk6 : 0 ≤ k ∧ k ≤ 7) (h3 : k ≠ 3) (hf : T.length ≤ 40 ∧ W ≤ 40 ∧ O ≤ 40 ∧ S ≤ 40 ∧ I ≤ 200 ∧ U ≤ 200 ∧ P ≤ 40)
    (h1 : k ≠ 1 → W = 0 ∧ O = 0) (h2 : k ≠ 2 → S = 0 ∧ I = 0 ∧ U = 0) (h4 : k ≠ 4 → P = 0)
    (hg : N ≤ 1 → W ≤ 20 ∧ O ≤ 20 ∧ S ≤ 20 ∧ I ≤ 100 ∧ U ≤ 100 ∧ P ≤ 20) (hb : 1 < N → (bytesErr (bm k T W O S I U P) : Int) = wt ∧ wt ≠ 0) : BmEnd N wt (bm k T W O S I U P) := by
  refine ⟨bm_ok k T W O S I U P (by unfold I64ok; omega), bm_few k T W O S I U P hf, hb, fun hN => ?_⟩
  have hk : 1 ≤ k ∧ k ≤ 5 := by omega
  have hg := hg hN
  obtain ⟨e0, e1⟩ := bm_good k T W O S I U P hk h3 hg
  have hs := nice_short (bm_nice k [false, false, false] W O S I U P hk ⟨rfl, hg⟩)
  have hn : named (bm k T W O S I U P) = bm k [] W O S I U P := by
    rcases (show k = 1 ∨ k = 2 ∨ k = 4 ∨ k = 5 by omega) with rfl | rfl | rfl | rfl
    · obtain ⟨rfl, rfl, rfl⟩ := h2 (by omega)
      obtain rfl := h4 (by omega)
      rfl
    · obtain ⟨rfl, rfl⟩ := h1 (by omega)
      obtain rfl := h4 (by omega)
      rfl
    · obtain ⟨rfl, rfl⟩ := h1 (by omega)
      obtain ⟨rfl, rfl, rfl⟩ := h2 (by omega)
      rfl
    · obtain ⟨rfl, rfl⟩ := h1 (by omega)
      obtain ⟨rfl, rfl, rfl⟩ := h2 (by omega)
      obtain rfl := h4 (by omega)
      rfl
  refine ⟨e0, e1, ?_, sameP_named _, ?_⟩
  · rw [hn]; exact ⟨rfl, hk, rfl, rfl, rfl, rfl, rfl, rfl, fun e => absurd e h3⟩
  · rw [hn]; exact ⟨hs.cw, hs.co, hs.cd, hs.rs, hs.ri, hs.ru, hs.mo, hs.md, Nat.zero_le _⟩
theorem bm_many {k : Int} {T : List Bool} {W O S I U P : Nat} (h3 : k ≠ 3) (hk : 1 ≤ k ∧ k ≤ 5) (h : (k = 1 ∧ (20 < W ∨ 20 < O)) ∨ (k = 2 ∧ (20 < S ∨ 100 < I ∨ 100 < U)) ∨ (k = 4 ∧ 20 < P)) : bytesErr (bm k T W O S I U P) = 4 := by
  have hm : manyM (bm k T W O S I U P) = true := by
    unfold manyM
    rcases h with ⟨rfl, h⟩ | ⟨rfl, h⟩ | ⟨rfl, h⟩
    · rw [if_pos (by rfl)]; simpa [bm] using h
    · rw [if_neg (by show ¬ (2 : Int) = 1; omega), if_pos (by rfl)]; simpa [bm] using h
    · rw [if_neg (by show ¬ (4 : Int) = 1; omega), if_neg (by show ¬ (4 : Int) = 2; omega), if_pos (by rfl)]; simpa [bm] using h
  unfold bytesErr
  rw [if_neg (by show ¬ (k < 1 ∨ 5 < k); omega), if_neg (fun e => h3 e.1), if_pos hm]
theorem bm_kind {k : Int} {T : List Bool} {W O S I U P : Nat} (hk : 5 < k) : bytesErr (bm k T W O S I U P) = 3 := by
  unfold bytesErr
  rw [if_pos (.inr hk)]
theorem rows_is (l : List Int) : rows (fun n : Int => [I64 n]) l = is l := by
  induction l with
  | nil => rfl
  | cons x l ih =>
    have e : rows (fun n : Int => [I64 n]) (x :: l) = I64 x :: rows (fun n : Int => [I64 n]) l := rfl
    rw [e, ih]
    rfl
def zOp : Array Value := #[.int .i64 0, .int .i64 0, .int .i64 0, .int .i64 0, .int .i64 0, .int .i64 0, .string (str []), .string (str []), .int .i64 0, .int .i64 0, .slice none 0 0]
theorem zeroOpB (w : World) : (zeroValue 60).run Try.prog w = .ok (.agg zOp) w := by kernel_rfl

set_option maxRecDepth 100000 in
set_option maxHeartbeats 4000000 in
theorem wbounds_walk (w : World) (which n : Int) (hwh : I64ok which) (hn : I64ok n) :
    Calls Try.prog 6 #[.int .i64 which, .int .i64 n] w fun e w' => e = .returned (.bool true) ∧ Ext no w w' := by
  go_enter Try.func6, Try.ntmps6
  go_wp2_with fail
  refine (wiknown_any w).mono ?_
  rintro e w1 ⟨rfl, hx1⟩
  go_wp2_with fail
  refine (wiwithin_any n 4 w1 (by omega) (by omega) hn).mono ?_
  rintro e we ⟨rfl, rfl⟩
  obtain ⟨N, hN⟩ : ∃ N, N = n % 4 := ⟨_, rfl⟩
  rw [← hN]
  have hN4 : 0 ≤ N ∧ N < 4 := by omega
  clear hN
  go_upto_region 4 with fail
  refine wp_region_lit ?_
  refine wp_build1 2 rfl rfl (by rfl) ?_
  simp only [Act.put, List.setIfInBounds_toArray, List.set_cons_zero, List.set_cons_succ]
  refine wp_alloc_msg rfl rfl (fun hC => ?_)
  simp only [Act.put, List.setIfInBounds_toArray, List.set_cons_zero, List.set_cons_succ]
  have hxa := Ext.alloc no w1 (.cells (MsgR.zero.cells MsgA.zero).toArray 36)
  obtain ⟨g, hg⟩ : ∃ g, g = w1.heap.size := ⟨_, rfl⟩
  rw [← hg] at hC ⊢
  have hgw : w.heap.size ≤ g := by have := hx1.size; omega
  clear hg
  generalize w1.alloc (.cells (MsgR.zero.cells MsgA.zero).toArray 36) = w2 at *
  have hx2 := hx1.comp hxa
  refine wp_store_msg (m := kindM 2) (h := MsgA.zero) rfl rfl (by rfl) (by rfl) hC rfl (fun hM hxs => ?_)
  simp only [Act.put, List.setIfInBounds_toArray, List.set_cons_zero, List.set_cons_succ]
  have hx3 := hx2.fresh hxs hgw
  generalize w2.setCells g 0 ((kindM 2).cells MsgA.zero) = w3 at *
  clear hC hxa hxs hx1 hx2
  go_upto_region 5 with fail
  refine wp_region_lit ?_
  refine wp_val (by rfl) (.agg #[.int .i64 0, .int .i64 1, .int .i64 1]) (by kernel_rfl) ?_
  simp only [Act.put, List.setIfInBounds_toArray, List.set_cons_zero, List.set_cons_succ]
  refine wp_val (by rfl) (.agg (oB.cells none 0).toArray) (by kernel_rfl) ?_
  simp only [Act.put, List.setIfInBounds_toArray, List.set_cons_zero, List.set_cons_succ]
  refine wpList_plain rfl fun K hK => op_alloc_row (vs := zOp) rfl zeroOpB fun hZ => hK _ _ ?_
  simp only [Act.put, List.setIfInBounds_toArray, List.set_cons_zero, List.set_cons_succ]
  clear hK
  have hxa := Ext.alloc no w3 (.cells zOp 60)
  obtain ⟨o, ho⟩ : ∃ o, o = w3.heap.size := ⟨_, rfl⟩
  rw [← ho] at hZ ⊢
  have how : w.heap.size ≤ o := by have := hx3.size; omega
  have hgo : g < o := by have := hM.lt (msg_ne _ _); omega
  have hM := hM.ext (msg_ne _ _) hxa (fun h => h)
  have hx3 := hx3.comp hxa
  clear ho hxa
  generalize w3.alloc (.cells zOp 60) = w4 at *
  refine wpList_plain rfl fun K hK => op_store_row (vs := (oB.cells none 0).toArray) rfl (by rfl) (by rfl) hZ rfl (by kernel_rfl) (by kernel_rfl) fun hO hxs => hK _ _ ?_
  simp only [Act.put, List.setIfInBounds_toArray, List.set_cons_zero, List.set_cons_succ]
  clear hK
  have hM := hM.ext (msg_ne _ _) hxs (fun e => by have e : g = o := e; omega)
  have hx4 := hx3.fresh hxs how
  generalize w4.setCells o 0 (oB.cells none 0).toArray.toList = w5 at *
  clear hZ hxs hx3
  go_wp2_with fail
  refine (wiwithin_any which 7 w5 (by omega) (by omega) hwh).mono ?_
  rintro e we ⟨rfl, rfl⟩
  obtain ⟨J, hJ⟩ : ∃ J, J = which % 7 := ⟨_, rfl⟩
  have HJ := Lib.hid hJ
  rw [← hJ]
  have hJ7 : 0 ≤ J ∧ J < 7 := by omega
  clear hJ
  go_upto_block 0 with fail
  go_cut [7] (fun s7 wx => ∃ (M : MsgR) (h : MsgA) (wt : Int), s7 = .int .i64 wt ∧ Blk wx g (M.cells h) ∧ M.In wx h ∧ BmEnd N wt M ∧ Ext no w wx)
  case first =>
    rcases (show J = 0 ∨ J = 1 ∨ J = 2 ∨ J = 3 ∨ J = 4 ∨ J = 5 ∨ J = 6 by omega) with rfl | rfl | rfl | rfl | rfl | rfl | rfl

    · obtain ⟨q, hq⟩ : ∃ q : Nat, (q : Int) = 19 + N := ⟨(19 + N).toNat, by omega⟩
      have HQ := Lib.hid hq
      have hq0 : 19 ≤ q ∧ q ≤ 22 ∧ (1 < N → 20 < q) ∧ (N ≤ 1 → q ≤ 20) := by omega
      clear hq
      go_upto_region 9 with fail
      refine wp_region_lit ?_
      refine wp_move (.int .i64 N) rfl rfl (by rfl) ?_
      simp only [Act.put, List.setIfInBounds_toArray, List.set_cons_zero, List.set_cons_succ]
      refine wp_val (by rfl) (.int .i64 (q : Int)) (by rw [HQ.out]; go_simp; rw [IntKind.wrap_i64]; omega) ?_
      simp only [Act.put, List.setIfInBounds_toArray, List.set_cons_zero, List.set_cons_succ]
      refine wp_make_rows (f := SliceR.cells) TySlices zS kSlice (by decide) (by rfl) rfl rfl q (by rfl) (by rfl) w5.heap.size (Nat.le_refl _) (by omega) (by unfold maxLen; omega) (fun G w6 hown hxm => ?_)
      simp only [Act.put, List.setIfInBounds_toArray, List.set_cons_zero, List.set_cons_succ]
      have hM6 := hM.ext (msg_ne _ _) hxm (fun h => h)
      have hx6 := hx4.comp hxm
      have hgG : w5.heap.size ≤ G := (hown.base _ rfl).1
      have hgl := hM.lt (msg_ne _ _)
      have z0 : w6.cell? ⟨g, 21, none⟩ = some (.slice none 0 0) := hM6.cell 21 _ rfl
      have f0 := hM6.fr 21
      have hMz : Blk (w6.setCell ⟨g, 21, none⟩ (.slice (some ⟨G, 0, none⟩) q q)) g ((bm 2 [] 0 0 q 0 0 0).cells { MsgA.zero with r := { ReplyA.zero with s := some ⟨G, 0, none⟩, sc := q } }) := hM6.put 21 _ (by show 21 < 25; omega) (by simp [bm, MsgR.cells, kindM, MsgR.zero, CmdR.zero, ReplyR.zero, MsgA.zero, CmdA.zero, ReplyA.zero])
      have hxz := Ext.at w6 g 21 (.slice (some ⟨G, 0, none⟩) q q)
      have hoz := hown.ext hxz (fun ad h e => by cases h; have e : G = g := e; omega)
      have hxx := hx6.fresh hxz hgw
      go_wp2_with fail
      go_meet
      exact ⟨(bm 2 [] 0 0 q 0 0 0), { MsgA.zero with r := { ReplyA.zero with s := some ⟨G, 0, none⟩, sc := q } }, 4, rfl, hMz, ⟨Rd.nil _ _, CmdR.In.zero _, ⟨hoz.rd, Rd.nil _ _, Rd.nil _ _, by show (List.replicate q _).length ≤ q; rw [List.length_replicate]; exact Nat.le_refl _, Nat.le_refl _, Nat.le_refl _, by show q ≤ maxLen; unfold maxLen; omega, Nat.zero_le _, Nat.zero_le _⟩, OpsIn.nil _ _, Nat.le_refl _, Nat.zero_le _, Nat.le_refl _, Nat.zero_le _⟩, bm_end (.inr (by omega)) (by omega) (by omega) ⟨by decide, by omega, by omega, by omega, by omega, by omega, by omega⟩ (by omega) (by omega) (by omega) (by omega) (fun hN => ⟨by rw [bm_many (by omega) (by omega) (by omega)]; rfl, by omega⟩), hxx⟩
    · obtain ⟨q, hq⟩ : ∃ q : Nat, (q : Int) = 99 + N := ⟨(99 + N).toNat, by omega⟩
      have HQ := Lib.hid hq
      have hq0 : 99 ≤ q ∧ q ≤ 102 ∧ (1 < N → 100 < q) ∧ (N ≤ 1 → q ≤ 100) := by omega
      clear hq
      go_upto_region 11 with fail
      refine wp_region_lit ?_
      refine wp_move (.int .i64 N) rfl rfl (by rfl) ?_
      simp only [Act.put, List.setIfInBounds_toArray, List.set_cons_zero, List.set_cons_succ]
      refine wp_val (by rfl) (.int .i64 (q : Int)) (by rw [HQ.out]; go_simp; rw [IntKind.wrap_i64]; omega) ?_
      simp only [Act.put, List.setIfInBounds_toArray, List.set_cons_zero, List.set_cons_succ]
      refine wp_make_rows (f := RangeR.cells) TyRanges zG kRange (by decide) (by rfl) rfl rfl q (by rfl) (by rfl) w5.heap.size (Nat.le_refl _) (by omega) (by unfold maxLen; omega) (fun G w6 hown hxm => ?_)
      simp only [Act.put, List.setIfInBounds_toArray, List.set_cons_zero, List.set_cons_succ]
      have hM6 := hM.ext (msg_ne _ _) hxm (fun h => h)
      have hx6 := hx4.comp hxm
      have hgG : w5.heap.size ≤ G := (hown.base _ rfl).1
      have hgl := hM.lt (msg_ne _ _)
      have z0 : w6.cell? ⟨g, 22, none⟩ = some (.slice none 0 0) := hM6.cell 22 _ rfl
      have f0 := hM6.fr 22
      have hMz : Blk (w6.setCell ⟨g, 22, none⟩ (.slice (some ⟨G, 0, none⟩) q q)) g ((bm 2 [] 0 0 0 q 0 0).cells { MsgA.zero with r := { ReplyA.zero with i := some ⟨G, 0, none⟩, ic := q } }) := hM6.put 22 _ (by show 22 < 25; omega) (by simp [bm, MsgR.cells, kindM, MsgR.zero, CmdR.zero, ReplyR.zero, MsgA.zero, CmdA.zero, ReplyA.zero])
      have hxz := Ext.at w6 g 22 (.slice (some ⟨G, 0, none⟩) q q)
      have hoz := hown.ext hxz (fun ad h e => by cases h; have e : G = g := e; omega)
      have hxx := hx6.fresh hxz hgw
      go_wp2_with fail
      go_meet
      exact ⟨(bm 2 [] 0 0 0 q 0 0), { MsgA.zero with r := { ReplyA.zero with i := some ⟨G, 0, none⟩, ic := q } }, 4, rfl, hMz, ⟨Rd.nil _ _, CmdR.In.zero _, ⟨Rd.nil _ _, hoz.rd, Rd.nil _ _, Nat.le_refl _, by show (List.replicate q _).length ≤ q; rw [List.length_replicate]; exact Nat.le_refl _, Nat.le_refl _, Nat.zero_le _, by show q ≤ maxLen; unfold maxLen; omega, Nat.zero_le _⟩, OpsIn.nil _ _, Nat.le_refl _, Nat.zero_le _, Nat.le_refl _, Nat.zero_le _⟩, bm_end (.inr (by omega)) (by omega) (by omega) ⟨by decide, by omega, by omega, by omega, by omega, by omega, by omega⟩ (by omega) (by omega) (by omega) (by omega) (fun hN => ⟨by rw [bm_many (by omega) (by omega) (by omega)]; rfl, by omega⟩), hxx⟩
    · obtain ⟨q, hq⟩ : ∃ q : Nat, (q : Int) = 99 + N := ⟨(99 + N).toNat, by omega⟩
      have HQ := Lib.hid hq
      have hq0 : 99 ≤ q ∧ q ≤ 102 ∧ (1 < N → 100 < q) ∧ (N ≤ 1 → q ≤ 100) := by omega
      clear hq
      go_upto_region 13 with fail
      refine wp_region_lit ?_
      refine wp_move (.int .i64 N) rfl rfl (by rfl) ?_
      simp only [Act.put, List.setIfInBounds_toArray, List.set_cons_zero, List.set_cons_succ]
      refine wp_val (by rfl) (.int .i64 (q : Int)) (by rw [HQ.out]; go_simp; rw [IntKind.wrap_i64]; omega) ?_
      simp only [Act.put, List.setIfInBounds_toArray, List.set_cons_zero, List.set_cons_succ]
      refine wp_make_rows (f := (fun n : Int => [I64 n])) TInts (0 : Int) (fun _ => rfl) (by decide) (by rfl) rfl rfl q (by rfl) (by rfl) w5.heap.size (Nat.le_refl _) (by omega) (by unfold maxLen; omega) (fun G w6 hown hxm => ?_)
      simp only [Act.put, List.setIfInBounds_toArray, List.set_cons_zero, List.set_cons_succ]
      have hM6 := hM.ext (msg_ne _ _) hxm (fun h => h)
      have hx6 := hx4.comp hxm
      have hgG : w5.heap.size ≤ G := (hown.base _ rfl).1
      have hgl := hM.lt (msg_ne _ _)
      have z0 : w6.cell? ⟨g, 23, none⟩ = some (.slice none 0 0) := hM6.cell 23 _ rfl
      have f0 := hM6.fr 23
      have hMz : Blk (w6.setCell ⟨g, 23, none⟩ (.slice (some ⟨G, 0, none⟩) q q)) g ((bm 2 [] 0 0 0 0 q 0).cells { MsgA.zero with r := { ReplyA.zero with u := some ⟨G, 0, none⟩, uc := q } }) := hM6.put 23 _ (by show 23 < 25; omega) (by simp [bm, MsgR.cells, kindM, MsgR.zero, CmdR.zero, ReplyR.zero, MsgA.zero, CmdA.zero, ReplyA.zero])
      have hxz := Ext.at w6 g 23 (.slice (some ⟨G, 0, none⟩) q q)
      have hoz := hown.ext hxz (fun ad h e => by cases h; have e : G = g := e; omega)
      have hxx := hx6.fresh hxz hgw
      go_wp2_with fail
      go_meet
      exact ⟨(bm 2 [] 0 0 0 0 q 0), { MsgA.zero with r := { ReplyA.zero with u := some ⟨G, 0, none⟩, uc := q } }, 4, rfl, hMz, ⟨Rd.nil _ _, CmdR.In.zero _, ⟨Rd.nil _ _, Rd.nil _ _, (by have e := hoz.rd; rw [rows_is] at e; exact e), Nat.le_refl _, Nat.le_refl _, by show (List.replicate q _).length ≤ q; rw [List.length_replicate]; exact Nat.le_refl _, Nat.zero_le _, Nat.zero_le _, by show q ≤ maxLen; unfold maxLen; omega⟩, OpsIn.nil _ _, Nat.le_refl _, Nat.zero_le _, Nat.le_refl _, Nat.zero_le _⟩, bm_end (.inr (by omega)) (by omega) (by omega) ⟨by decide, by omega, by omega, by omega, by omega, by omega, by omega⟩ (by omega) (by omega) (by omega) (by omega) (fun hN => ⟨by rw [bm_many (by omega) (by omega) (by omega)]; rfl, by omega⟩), hxx⟩
    · obtain ⟨q, hq⟩ : ∃ q : Nat, (q : Int) = 19 + N := ⟨(19 + N).toNat, by omega⟩
      have HQ := Lib.hid hq
      have hq0 : 19 ≤ q ∧ q ≤ 22 ∧ (1 < N → 20 < q) ∧ (N ≤ 1 → q ≤ 20) := by omega
      clear hq
      go_upto_region 15 with fail
      refine wp_region_lit ?_
      refine wp_build1 1 rfl rfl (by rfl) ?_
      simp only [Act.put, List.setIfInBounds_toArray, List.set_cons_zero, List.set_cons_succ]
      refine wp_store_msg (m := kindM 1) (h := MsgA.zero) rfl rfl (by rfl) (by rfl) hM rfl (fun hM1 hxs => ?_)
      simp only [Act.put, List.setIfInBounds_toArray, List.set_cons_zero, List.set_cons_succ]
      have hx4 := hx4.fresh hxs hgw
      have hO := hO.ext (by simp [OpR.cells]) hxs (fun e => by have e : o = g := e; omega)
      generalize w5.setCells g 0 ((kindM 1).cells MsgA.zero) = w5 at *
      clear hM hxs
      have hM := hM1
      clear hM1
      go_upto_region 16 with fail
      refine wp_region_lit ?_
      refine wp_move (.int .i64 N) rfl rfl (by rfl) ?_
      simp only [Act.put, List.setIfInBounds_toArray, List.set_cons_zero, List.set_cons_succ]
      refine wp_val (by rfl) (.int .i64 (q : Int)) (by rw [HQ.out]; go_simp; rw [IntKind.wrap_i64]; omega) ?_
      simp only [Act.put, List.setIfInBounds_toArray, List.set_cons_zero, List.set_cons_succ]
      refine wp_make_rows (f := WantR.cells) TyWants zW kWant (by decide) (by rfl) rfl rfl q (by rfl) (by rfl) w5.heap.size (Nat.le_refl _) (by omega) (by unfold maxLen; omega) (fun G w6 hown hxm => ?_)
      simp only [Act.put, List.setIfInBounds_toArray, List.set_cons_zero, List.set_cons_succ]
      have hM6 := hM.ext (msg_ne _ _) hxm (fun h => h)
      have hx6 := hx4.comp hxm
      have hgG : w5.heap.size ≤ G := (hown.base _ rfl).1
      have hgl := hM.lt (msg_ne _ _)
      have z0 : w6.cell? ⟨g, 13, none⟩ = some (.slice none 0 0) := hM6.cell 13 _ rfl
      have f0 := hM6.fr 13
      have hMz : Blk (w6.setCell ⟨g, 13, none⟩ (.slice (some ⟨G, 0, none⟩) q q)) g ((bm 1 [] q 0 0 0 0 0).cells { MsgA.zero with c := { CmdA.zero with w := some ⟨G, 0, none⟩, wc := q } }) := hM6.put 13 _ (by show 13 < 25; omega) (by simp [bm, MsgR.cells, kindM, MsgR.zero, CmdR.zero, ReplyR.zero, MsgA.zero, CmdA.zero, ReplyA.zero])
      have hxz := Ext.at w6 g 13 (.slice (some ⟨G, 0, none⟩) q q)
      have hoz := hown.ext hxz (fun ad h e => by cases h; have e : G = g := e; omega)
      have hxx := hx6.fresh hxz hgw
      go_wp2_with fail
      go_meet
      exact ⟨(bm 1 [] q 0 0 0 0 0), { MsgA.zero with c := { CmdA.zero with w := some ⟨G, 0, none⟩, wc := q } }, 4, rfl, hMz, ⟨Rd.nil _ _, ⟨hoz.rd, OpsIn.nil _ _, by show (List.replicate q _).length ≤ q; rw [List.length_replicate]; exact Nat.le_refl _, Nat.le_refl _, by show q ≤ maxLen; unfold maxLen; omega, Nat.zero_le _⟩, ReplyR.In.zero _, OpsIn.nil _ _, Nat.le_refl _, Nat.zero_le _, Nat.le_refl _, Nat.zero_le _⟩, bm_end (.inr (by omega)) (by omega) (by omega) ⟨by decide, by omega, by omega, by omega, by omega, by omega, by omega⟩ (by omega) (by omega) (by omega) (by omega) (fun hN => ⟨by rw [bm_many (by omega) (by omega) (by omega)]; rfl, by omega⟩), hxx⟩
    · obtain ⟨q, hq⟩ : ∃ q : Nat, (q : Int) = 19 + N := ⟨(19 + N).toNat, by omega⟩
      have HQ := Lib.hid hq
      have hq0 : 19 ≤ q ∧ q ≤ 22 ∧ (1 < N → 20 < q) ∧ (N ≤ 1 → q ≤ 20) := by omega
      clear hq
      obtain ⟨ob, hob⟩ : ∃ ob, ob = oB := ⟨_, rfl⟩
      rw [← hob] at hO
      have HOB := Lib.hid hob
      clear hob
      have hol := hO.lt (by simp [OpR.cells])
      go_wp2_with fail
      go_loopw [8, 9] (fun s8 s9 wr => ∃ (i : Nat) (ga : Option Addr) (gc : Nat), s8 = .slice ga (List.replicate i (⟨ob, none, 0⟩ : OpW)).length gc ∧ s9 = .int .i64 i ∧ i ≤ q ∧ OpAcc wr w5.heap.size ga gc (List.replicate i (⟨ob, none, 0⟩ : OpW)) ∧ Ext no w5 wr) (fun _ s9 _ => q - (intOf s9).toNat)
      case atStart => exact ⟨0, none, 0, rfl, rfl, Nat.zero_le _, OpAcc.nil _ _, Ext.refl _ _⟩
      case round =>
        obtain ⟨i, ga, gc, rfl, rfl, hiq, hacc, hx⟩ := hrel
        have hOr := hO.ext (by simp [OpR.cells]) hx (fun h => h)
        obtain ⟨G, hG⟩ : ∃ G, G = List.replicate i (⟨ob, none, 0⟩ : OpW) := ⟨_, rfl⟩
        rw [← hG] at hacc ⊢
        have HG := Lib.hid hG
        have HGl := Lib.hid (show G.length = i by rw [hG, List.length_replicate])
        clear hG
        by_cases hq : i < q
        · have e1 : decide ((i : Int) < 19 + N) = true := decT (by have := HQ.out; omega)
          have y0 : wr.cell? ⟨o, 0, none⟩ = some (.int .i64 ob.dot.dev) := hOr.cell 0 _ rfl
          have y1 : wr.cell? ⟨o, 1, none⟩ = some (.int .i64 ob.dot.ep) := hOr.cell 1 _ rfl
          have y2 : wr.cell? ⟨o, 2, none⟩ = some (.int .i64 ob.dot.seq) := hOr.cell 2 _ rfl
          have y3 : wr.cell? ⟨o, 3, none⟩ = some (.int .i64 ob.coll) := hOr.cell 3 _ rfl
          have y4 : wr.cell? ⟨o, 4, none⟩ = some (.int .i64 ob.ver) := hOr.cell 4 _ rfl
          have y5 : wr.cell? ⟨o, 5, none⟩ = some (.int .i64 ob.kind) := hOr.cell 5 _ rfl
          have y6 : wr.cell? ⟨o, 6, none⟩ = some (.string (str ob.key)) := hOr.cell 6 _ rfl
          have y7 : wr.cell? ⟨o, 7, none⟩ = some (.string (str ob.text)) := hOr.cell 7 _ rfl
          have y8 : wr.cell? ⟨o, 8, none⟩ = some (.int .i64 ob.n) := hOr.cell 8 _ rfl
          have y9 : wr.cell? ⟨o, 9, none⟩ = some (.int .i64 ob.time) := hOr.cell 9 _ rfl
          have y10 : wr.cell? ⟨o, 10, none⟩ = some (.slice none ob.dots.length 0) := hOr.cell 10 _ rfl
          go_wp2_with (at_builtin; refine wpList_append TOps rfl rfl rfl (hacc.own.alloc _) rfl (Rd.lit wr #[.int .i64 ob.dot.dev, .int .i64 ob.dot.ep, .int .i64 ob.dot.seq, .int .i64 ob.coll, .int .i64 ob.ver, .int .i64 ob.kind, .string (str ob.key), .string (str ob.text), .int .i64 ob.n, .int .i64 ob.time, .slice none ob.dots.length 0] 60 (0, 0)) (m := 1) rfl (oneOp ⟨ob, none, 0⟩) (by have := HGl.out; unfold maxLen; omega) (by have := HGl.out; omega) (by simp; have := hx.size; omega) ?_)
          intro a2 c2 w7 happ
          have hp := hacc.push (x := ⟨ob, none, 0⟩) (Ext.refl no wr) ⟨(by rw [HOB.out]; exact Rd.nil _ _), (by rw [HOB.out]; exact Nat.le_refl _), Nat.zero_le _⟩ (fun ad h => by cases h) hx.size happ
          have hx7 : Ext no w5 w7 := (hx.comp (Ext.alloc no wr _)).trans hp.2 (fun k hk => by rintro ⟨ad, ha, e⟩; have := (hacc.own.base ad ha).1; omega)
          clear happ
          go_wp2_with fail
          go_roundw
          case rel => exact ⟨i + 1, a2, c2, by rw [List.length_replicate, HGl.out], by go_num, by omega, by rw [show List.replicate (i + 1) (⟨ob, none, 0⟩ : OpW) = G ++ [⟨ob, none, 0⟩] by rw [HG.out, List.replicate_succ']]; exact hp.1, hx7⟩
          case measure => simp [intOf]; omega
        · have e1 : decide ((i : Int) < 19 + N) = false := decF (by have := HQ.out; omega)
          have hiq' : i = q := by omega
          have HGq := Lib.hid (show G.length = q by rw [HGl.out]; exact hiq')
          have HGm := Lib.hid (show G.map OpW.o = List.replicate q oB by rw [HG.out, hiq', List.map_replicate, HOB.out])
          clear hiq' hiq hq
          obtain ⟨wl, h0⟩ : ∃ v, v = wr := ⟨_, rfl⟩
          subst h0
          have hMl := hM.ext (msg_ne _ _) hx (fun h => h)
          have hx6 := hx4.comp hx
          go_upto_region 24 with fail
          refine wp_region_lit ?_
          refine wp_move (.slice ga q gc) rfl rfl (by rw [← HGq.out]; rfl) ?_
          simp only [Act.put, List.setIfInBounds_toArray, List.set_cons_zero, List.set_cons_succ]
          refine wp_val (by rfl) (.agg #[.int .i64 4, .int .i64 0, .int .i64 0, .int .i64 0, .int .i64 0, .int .i64 0, .slice none 0 0, .int .i64 0, .int .i64 0, .int .i64 0, .int .i64 0, .int .i64 0, .int .i64 0, .slice none 0 0, .slice none 0 0, .int .i64 0, .int .i64 0, .int .i64 0, .int .i64 0, .int .i64 0, .int .i64 0, .slice none 0 0, .slice none 0 0, .slice none 0 0, .slice ga q gc]) (by kernel_rfl) ?_
          simp only [Act.put, List.setIfInBounds_toArray, List.set_cons_zero, List.set_cons_succ]
          refine wp_store_msg (m := bm 4 [] 0 0 0 0 0 q) (h := { MsgA.zero with o := ga, oc := gc }) rfl rfl (by rfl) (by show Value.agg #[.int .i64 4, .int .i64 0, .int .i64 0, .int .i64 0, .int .i64 0, .int .i64 0, .slice none 0 0, .int .i64 0, .int .i64 0, .int .i64 0, .int .i64 0, .int .i64 0, .int .i64 0, .slice none 0 0, .slice none 0 0, .int .i64 0, .int .i64 0, .int .i64 0, .int .i64 0, .int .i64 0, .int .i64 0, .slice none 0 0, .slice none 0 0, .slice none 0 0, .slice ga q gc] = _; simp [bm, MsgR.val, MsgR.zero, CmdR.zero, ReplyR.zero, MsgA.zero, CmdA.zero, ReplyA.zero]) hMl rfl (fun hMs hxs => ?_)
          simp only [Act.put, List.setIfInBounds_toArray, List.set_cons_zero, List.set_cons_succ]
          have hxx6 := hx6.fresh hxs hgw
          have hgl := hM.lt (msg_ne _ _)
          have hacc6 := hacc.low hxs (fun k hk => by have e : k = g := hk; omega)
          generalize wl.setCells g 0 ((bm 4 [] 0 0 0 0 0 q).cells { MsgA.zero with o := ga, oc := gc }) = w6 at *
          clear hxs hMl hacc
          go_wp2_with fail
          refine (wiwithin_any which 7 w6 (by omega) (by omega) hwh).mono ?_
          rintro e we ⟨rfl, rfl⟩
          rw [← HJ.out]
          go_wp2_with fail
          go_meet
          exact ⟨_, _, 4, rfl, hMs, ⟨Rd.nil _ _, CmdR.In.zero _, ReplyR.In.zero _, (show OpsIn _ ga (List.replicate q oB) by rw [← HGm.out]; exact hacc6.in), Nat.le_refl _, Nat.zero_le _, (show (List.replicate q oB).length ≤ gc by rw [List.length_replicate, ← HGq.out]; exact hacc6.own.nc), hacc6.own.cm⟩, bm_end (.inr (by omega)) (by omega) (by omega) ⟨by decide, by omega, by omega, by omega, by omega, by omega, by omega⟩ (by omega) (by omega) (by omega) (by omega) (fun hN => ⟨by rw [bm_many (by omega) (by omega) (by omega)]; rfl, by omega⟩), hxx6⟩
    · obtain ⟨q, hq⟩ : ∃ q : Nat, (q : Int) = 19 + N := ⟨(19 + N).toNat, by omega⟩
      have HQ := Lib.hid hq
      have hq0 : 19 ≤ q ∧ q ≤ 22 ∧ (1 < N → 20 < q) ∧ (N ≤ 1 → q ≤ 20) := by omega
      clear hq
      obtain ⟨ob, hob⟩ : ∃ ob, ob = oB := ⟨_, rfl⟩
      rw [← hob] at hO
      have HOB := Lib.hid hob
      clear hob
      have hol := hO.lt (by simp [OpR.cells])
      go_wp2_with fail
      go_loopw [8, 9] (fun s8 s9 wr => ∃ (i : Nat) (ga : Option Addr) (gc : Nat), s8 = .slice ga (List.replicate i (⟨ob, none, 0⟩ : OpW)).length gc ∧ s9 = .int .i64 i ∧ i ≤ q ∧ OpAcc wr w5.heap.size ga gc (List.replicate i (⟨ob, none, 0⟩ : OpW)) ∧ Ext no w5 wr) (fun _ s9 _ => q - (intOf s9).toNat)
      case atStart => exact ⟨0, none, 0, rfl, rfl, Nat.zero_le _, OpAcc.nil _ _, Ext.refl _ _⟩
      case round =>
        obtain ⟨i, ga, gc, rfl, rfl, hiq, hacc, hx⟩ := hrel
        have hOr := hO.ext (by simp [OpR.cells]) hx (fun h => h)
        obtain ⟨G, hG⟩ : ∃ G, G = List.replicate i (⟨ob, none, 0⟩ : OpW) := ⟨_, rfl⟩
        rw [← hG] at hacc ⊢
        have HG := Lib.hid hG
        have HGl := Lib.hid (show G.length = i by rw [hG, List.length_replicate])
        clear hG
        by_cases hq : i < q
        · have e1 : decide ((i : Int) < 19 + N) = true := decT (by have := HQ.out; omega)
          have y0 : wr.cell? ⟨o, 0, none⟩ = some (.int .i64 ob.dot.dev) := hOr.cell 0 _ rfl
          have y1 : wr.cell? ⟨o, 1, none⟩ = some (.int .i64 ob.dot.ep) := hOr.cell 1 _ rfl
          have y2 : wr.cell? ⟨o, 2, none⟩ = some (.int .i64 ob.dot.seq) := hOr.cell 2 _ rfl
          have y3 : wr.cell? ⟨o, 3, none⟩ = some (.int .i64 ob.coll) := hOr.cell 3 _ rfl
          have y4 : wr.cell? ⟨o, 4, none⟩ = some (.int .i64 ob.ver) := hOr.cell 4 _ rfl
          have y5 : wr.cell? ⟨o, 5, none⟩ = some (.int .i64 ob.kind) := hOr.cell 5 _ rfl
          have y6 : wr.cell? ⟨o, 6, none⟩ = some (.string (str ob.key)) := hOr.cell 6 _ rfl
          have y7 : wr.cell? ⟨o, 7, none⟩ = some (.string (str ob.text)) := hOr.cell 7 _ rfl
          have y8 : wr.cell? ⟨o, 8, none⟩ = some (.int .i64 ob.n) := hOr.cell 8 _ rfl
          have y9 : wr.cell? ⟨o, 9, none⟩ = some (.int .i64 ob.time) := hOr.cell 9 _ rfl
          have y10 : wr.cell? ⟨o, 10, none⟩ = some (.slice none ob.dots.length 0) := hOr.cell 10 _ rfl
          go_wp2_with (at_builtin; refine wpList_append TOps rfl rfl rfl (hacc.own.alloc _) rfl (Rd.lit wr #[.int .i64 ob.dot.dev, .int .i64 ob.dot.ep, .int .i64 ob.dot.seq, .int .i64 ob.coll, .int .i64 ob.ver, .int .i64 ob.kind, .string (str ob.key), .string (str ob.text), .int .i64 ob.n, .int .i64 ob.time, .slice none ob.dots.length 0] 60 (0, 0)) (m := 1) rfl (oneOp ⟨ob, none, 0⟩) (by have := HGl.out; unfold maxLen; omega) (by have := HGl.out; omega) (by simp; have := hx.size; omega) ?_)
          intro a2 c2 w7 happ
          have hp := hacc.push (x := ⟨ob, none, 0⟩) (Ext.refl no wr) ⟨(by rw [HOB.out]; exact Rd.nil _ _), (by rw [HOB.out]; exact Nat.le_refl _), Nat.zero_le _⟩ (fun ad h => by cases h) hx.size happ
          have hx7 : Ext no w5 w7 := (hx.comp (Ext.alloc no wr _)).trans hp.2 (fun k hk => by rintro ⟨ad, ha, e⟩; have := (hacc.own.base ad ha).1; omega)
          clear happ
          go_wp2_with fail
          go_roundw
          case rel => exact ⟨i + 1, a2, c2, by rw [List.length_replicate, HGl.out], by go_num, by omega, by rw [show List.replicate (i + 1) (⟨ob, none, 0⟩ : OpW) = G ++ [⟨ob, none, 0⟩] by rw [HG.out, List.replicate_succ']]; exact hp.1, hx7⟩
          case measure => simp [intOf]; omega
        · have e1 : decide ((i : Int) < 19 + N) = false := decF (by have := HQ.out; omega)
          have hiq' : i = q := by omega
          have HGq := Lib.hid (show G.length = q by rw [HGl.out]; exact hiq')
          have HGm := Lib.hid (show G.map OpW.o = List.replicate q oB by rw [HG.out, hiq', List.map_replicate, HOB.out])
          clear hiq' hiq hq
          obtain ⟨wl, h0⟩ : ∃ v, v = wr := ⟨_, rfl⟩
          subst h0
          have hMl := hM.ext (msg_ne _ _) hx (fun h => h)
          have hx6 := hx4.comp hx
          go_upto_region 24 with fail
          refine wp_region_lit ?_
          refine wp_move (.slice ga q gc) rfl rfl (by rw [← HGq.out]; rfl) ?_
          simp only [Act.put, List.setIfInBounds_toArray, List.set_cons_zero, List.set_cons_succ]
          refine wp_val (by rfl) (.agg #[.int .i64 4, .int .i64 0, .int .i64 0, .int .i64 0, .int .i64 0, .int .i64 0, .slice none 0 0, .int .i64 0, .int .i64 0, .int .i64 0, .int .i64 0, .int .i64 0, .int .i64 0, .slice none 0 0, .slice none 0 0, .int .i64 0, .int .i64 0, .int .i64 0, .int .i64 0, .int .i64 0, .int .i64 0, .slice none 0 0, .slice none 0 0, .slice none 0 0, .slice ga q gc]) (by kernel_rfl) ?_
          simp only [Act.put, List.setIfInBounds_toArray, List.set_cons_zero, List.set_cons_succ]
          refine wp_store_msg (m := bm 4 [] 0 0 0 0 0 q) (h := { MsgA.zero with o := ga, oc := gc }) rfl rfl (by rfl) (by show Value.agg #[.int .i64 4, .int .i64 0, .int .i64 0, .int .i64 0, .int .i64 0, .int .i64 0, .slice none 0 0, .int .i64 0, .int .i64 0, .int .i64 0, .int .i64 0, .int .i64 0, .int .i64 0, .slice none 0 0, .slice none 0 0, .int .i64 0, .int .i64 0, .int .i64 0, .int .i64 0, .int .i64 0, .int .i64 0, .slice none 0 0, .slice none 0 0, .slice none 0 0, .slice ga q gc] = _; simp [bm, MsgR.val, MsgR.zero, CmdR.zero, ReplyR.zero, MsgA.zero, CmdA.zero, ReplyA.zero]) hMl rfl (fun hMs hxs => ?_)
          simp only [Act.put, List.setIfInBounds_toArray, List.set_cons_zero, List.set_cons_succ]
          have hxx6 := hx6.fresh hxs hgw
          have hgl := hM.lt (msg_ne _ _)
          have hacc6 := hacc.low hxs (fun k hk => by have e : k = g := hk; omega)
          generalize wl.setCells g 0 ((bm 4 [] 0 0 0 0 0 q).cells { MsgA.zero with o := ga, oc := gc }) = w6 at *
          clear hxs hMl hacc
          go_wp2_with fail
          refine (wiwithin_any which 7 w6 (by omega) (by omega) hwh).mono ?_
          rintro e we ⟨rfl, rfl⟩
          rw [← HJ.out]
          go_upto_region 26 with fail
          refine wp_region_lit ?_
          refine wp_move (.slice ga q gc) rfl rfl (by rw [← HGq.out]; rfl) ?_
          simp only [Act.put, List.setIfInBounds_toArray, List.set_cons_zero, List.set_cons_succ]
          refine wp_val (by rfl) (.agg #[.int .i64 0, .int .i64 0, .int .i64 0, .int .i64 0, .int .i64 0, .slice none 0 0, .slice ga q gc]) (by kernel_rfl) ?_
          simp only [Act.put, List.setIfInBounds_toArray, List.set_cons_zero, List.set_cons_succ]
          refine wp_val (by rfl) (.agg #[.int .i64 1, .int .i64 0, .int .i64 0, .int .i64 0, .int .i64 0, .int .i64 0, .slice none 0 0, .int .i64 0, .int .i64 0, .int .i64 0, .int .i64 0, .int .i64 0, .int .i64 0, .slice none 0 0, .slice ga q gc, .int .i64 0, .int .i64 0, .int .i64 0, .int .i64 0, .int .i64 0, .int .i64 0, .slice none 0 0, .slice none 0 0, .slice none 0 0, .slice none 0 0]) (by kernel_rfl) ?_
          simp only [Act.put, List.setIfInBounds_toArray, List.set_cons_zero, List.set_cons_succ]
          refine wp_store_msg (m := bm 1 [] 0 q 0 0 0 0) (h := { MsgA.zero with c := { CmdA.zero with o := ga, oc := gc } }) rfl rfl (by rfl) (by show Value.agg #[.int .i64 1, .int .i64 0, .int .i64 0, .int .i64 0, .int .i64 0, .int .i64 0, .slice none 0 0, .int .i64 0, .int .i64 0, .int .i64 0, .int .i64 0, .int .i64 0, .int .i64 0, .slice none 0 0, .slice ga q gc, .int .i64 0, .int .i64 0, .int .i64 0, .int .i64 0, .int .i64 0, .int .i64 0, .slice none 0 0, .slice none 0 0, .slice none 0 0, .slice none 0 0] = _; simp [bm, MsgR.val, MsgR.zero, CmdR.zero, ReplyR.zero, MsgA.zero, CmdA.zero, ReplyA.zero]) hMs rfl (fun hMt hxt => ?_)
          simp only [Act.put, List.setIfInBounds_toArray, List.set_cons_zero, List.set_cons_succ]
          have hxx7 := hxx6.fresh hxt hgw
          have hacc7 := hacc6.low hxt (fun k hk => by have e : k = g := hk; omega)
          go_wp2_with fail
          go_meet
          exact ⟨_, _, 4, rfl, hMt, ⟨Rd.nil _ _, ⟨Rd.nil _ _, (show OpsIn _ ga (List.replicate q oB) by rw [← HGm.out]; exact hacc7.in), Nat.le_refl _, (show (List.replicate q oB).length ≤ gc by rw [List.length_replicate, ← HGq.out]; exact hacc7.own.nc), Nat.zero_le _, hacc7.own.cm⟩, ReplyR.In.zero _, OpsIn.nil _ _, Nat.le_refl _, Nat.zero_le _, Nat.le_refl _, Nat.zero_le _⟩, bm_end (.inr (by omega)) (by omega) (by omega) ⟨by decide, by omega, by omega, by omega, by omega, by omega, by omega⟩ (by omega) (by omega) (by omega) (by omega) (fun hN => ⟨by rw [bm_many (by omega) (by omega) (by omega)]; rfl, by omega⟩), hxx7⟩
    · go_upto_region 28 with fail
      refine wp_region_lit ?_
      refine wp_move (.int .i64 N) rfl rfl (by rfl) ?_
      simp only [Act.put, List.setIfInBounds_toArray, List.set_cons_zero, List.set_cons_succ]
      refine wp_val (by rfl) (.int .i64 (4 + N)) (by go_simp; rw [IntKind.wrap_i64]; omega) ?_
      simp only [Act.put, List.setIfInBounds_toArray, List.set_cons_zero, List.set_cons_succ]
      refine wp_make_rows (f := fun b : Bool => [Value.bool b]) TBools false (fun _ => rfl) (by decide) (by rfl) rfl rfl 3 (by rfl) (by rfl) w5.heap.size (Nat.le_refl _) (by omega) (by unfold maxLen; omega) (fun G w6 hown hxm => ?_)
      simp only [Act.put, List.setIfInBounds_toArray, List.set_cons_zero, List.set_cons_succ]
      have hM6 := hM.ext (msg_ne _ _) hxm (fun h => h)
      have hx6 := hx4.comp hxm
      have hgG : w5.heap.size ≤ G := (hown.base _ rfl).1
      have hgl := hM.lt (msg_ne _ _)
      refine wp_val (by rfl) (.agg #[.int .i64 (4 + N), .int .i64 0, .int .i64 0, .int .i64 0, .int .i64 0, .int .i64 0, .slice (some ⟨G, 0, none⟩) 3 3, .int .i64 0, .int .i64 0, .int .i64 0, .int .i64 0, .int .i64 0, .int .i64 0, .slice none 0 0, .slice none 0 0, .int .i64 0, .int .i64 0, .int .i64 0, .int .i64 0, .int .i64 0, .int .i64 0, .slice none 0 0, .slice none 0 0, .slice none 0 0, .slice none 0 0]) (by kernel_rfl) ?_
      simp only [Act.put, List.setIfInBounds_toArray, List.set_cons_zero, List.set_cons_succ]
      refine wp_store_msg (m := (bm (4 + N) (List.replicate 3 false) 0 0 0 0 0 0)) (h := { MsgA.zero with b := some ⟨G, 0, none⟩, bc := 3 }) rfl rfl (by rfl) (by rfl) hM6 rfl (fun hMs hxs => ?_)
      simp only [Act.put, List.setIfInBounds_toArray, List.set_cons_zero, List.set_cons_succ]
      have hxx6 := hx6.fresh hxs hgw
      have hoz := hown.ext hxs (fun ad h e => by cases h; have e : G = g := e; omega)
      go_wp2_with fail
      go_meet
      exact ⟨_, _, 3, rfl, hMs, ⟨hoz.rd, CmdR.In.zero _, ReplyR.In.zero _, OpsIn.nil _ _, Nat.le_refl _, (by show 3 ≤ maxLen; unfold maxLen; omega), Nat.le_refl _, Nat.zero_le _⟩, bm_end (by omega) (by omega) (by omega) ⟨by decide, by omega, by omega, by omega, by omega, by omega, by omega⟩ (by omega) (by omega) (by omega) (by omega) (fun hN => ⟨by rw [bm_kind (by omega)]; rfl, by omega⟩), hxx6⟩
  case rest =>
    obtain ⟨M, hA, wt, rfl, hC, hin, hE, hx⟩ := hcut
    obtain ⟨w6, h0⟩ : ∃ v, v = wc := ⟨_, rfl⟩
    subst h0
    clear hO hM hx4 HJ
    go_upto_region 30 with fail
    refine wp_region_lit ?_
    refine wp_load_msg (m := M) (h := hA) rfl rfl (by rfl) hC ?_
    simp only [Act.put, List.setIfInBounds_toArray, List.set_cons_zero, List.set_cons_succ]
    go_wp2_with fail
    refine (wbytes_any w6 M hA hin hE.ok hE.few).mono ?_
    rintro e w7 ⟨a, c, rfl, ho, hx7⟩
    by_cases hN1 : 1 < N
    · have e1 : decide (1 < N) = true := decT hN1
      obtain ⟨hb, hw0⟩ := hE.bad hN1
      have hB : bytesOf M = [] := by unfold bytesOf; rw [if_neg (by omega)]
      rw [hB, hb]
      have e2 : (wt == wt) = true := by simp
      clear hb hw0 hB hN1 ho
      go_wp2_with fail
      go_ret
      exact ⟨rfl, hx.comp hx7⟩
    · have e1 : decide (1 < N) = false := decF hN1
      obtain ⟨h0, ⟨B, hB, hBl, hp0, hpm⟩, hTw, hSp, hSh⟩ := hE.good (by omega)
      rw [hB] at ho ⊢
      rw [h0]
      have HP0 := Lib.hid hp0
      have HPM := Lib.hid hpm
      have hC7 := hC.ext (msg_ne _ _) hx7 (fun h => h)
      have hxx7 := hx.comp hx7
      have hin7 := hin.no hx7
      clear h0 hB hp0 hpm hN1 hE hC hx hx7 hin
      go_wp2_with fail
      refine (wparse_any w7 a c B ho.rd hBl ho.nc).mono ?_
      rintro e w8 ⟨kx, rfl, hKp, hx8⟩
      have hX8 := hKp.now
      rw [HP0.out, HPM.out]
      rw [HPM.out] at hX8
      have hC8 := hC7.ext (msg_ne _ _) hx8 (fun h => h)
      have hxx8 := hxx7.comp hx8
      have hin8 := hin7.no hx8
      rename_i hK
      dsimp only
      refine hK _ _ ?_
      clear hK hKp hC7 hxx7 hx8 hin7
      obtain ⟨X, hX⟩ : ∃ X, X = named M := ⟨_, rfl⟩
      rw [← hX] at hX8 hTw hSp hSh ⊢
      clear hX
      refine wp_move (.tuple #[X.val kx, .int .i64 0]) rfl rfl (by rfl) ?_
      simp only [Act.put, List.setIfInBounds_toArray, List.set_cons_zero, List.set_cons_succ]
      refine wp_extract (vs := #[X.val kx, .int .i64 0]) (v := X.val kx) rfl rfl (by rfl) rfl ?_
      simp only [Act.put, List.setIfInBounds_toArray, List.set_cons_zero, List.set_cons_succ]
      refine wp_extract (vs := #[X.val kx, .int .i64 0]) (v := .int .i64 0) rfl rfl (by rfl) rfl ?_
      simp only [Act.put, List.setIfInBounds_toArray, List.set_cons_zero, List.set_cons_succ]
      refine wp_alloc_msg rfl rfl (fun hZ => ?_)
      simp only [Act.put, List.setIfInBounds_toArray, List.set_cons_zero, List.set_cons_succ]
      have hxc := Ext.alloc no w8 (.cells (MsgR.zero.cells MsgA.zero).toArray 36)
      have hC9 := hC8.ext (msg_ne _ _) hxc (fun h => h)
      have hgl := hC8.lt (msg_ne _ _)
      have hsz := hxx8.size
      obtain ⟨gx, hgx⟩ : ∃ v, v = w8.heap.size := ⟨_, rfl⟩
      rw [← hgx] at hZ ⊢
      have hggx : g < gx := by omega
      have hwx : w.heap.size ≤ gx := by omega
      have hlx : gx = w8.heap.size := hgx
      have HLX := Lib.hid hlx
      clear hgx hgl hsz hlx
      have hin9 := hin8.no hxc
      have hX9 := hX8.no hxc
      refine wp_store_msg (m := X) (h := kx) rfl rfl (by rfl) (by rfl) hZ rfl (fun hY hx9 => ?_)
      simp only [Act.put, List.setIfInBounds_toArray, List.set_cons_zero, List.set_cons_succ]
      have hxcx : Ext no w8 ((w8.alloc (.cells (MsgR.zero.cells MsgA.zero).toArray 36)).setCells gx 0 (X.cells kx)) := hxc.trans hx9 (fun k hk h => by have h : k = gx := h; have := HLX.out; omega)
      have hC10 := hC9.ext (msg_ne _ _) hx9 (fun e => by have e : g = gx := e; omega)
      have hxx9 := hxx8.comp hxcx
      have hinA := hin8.no hxcx
      have hXA := hX8.no hxcx
      clear hC8 hC9 hxc hx9 hxx8 hZ hin8 hin9 hX8 hX9 hxcx
      generalize (w8.alloc (.cells (MsgR.zero.cells MsgA.zero).toArray 36)).setCells gx 0 (X.cells kx) = w9 at *
      refine wp_assign (.int .i64 0) rfl rfl (by rfl) ?_
      simp only [Act.put, List.setIfInBounds_toArray, List.set_cons_zero, List.set_cons_succ]
      go_upto_region 34 with fail
      refine wp_region_lit ?_
      refine wp_val (by rfl) (.int .i64 0) (by go_simp) ?_
      simp only [Act.put, List.setIfInBounds_toArray, List.set_cons_zero, List.set_cons_succ]
      refine wp_val (by rfl) (.bool true) (by go_simp) ?_
      simp only [Act.put, List.setIfInBounds_toArray, List.set_cons_zero, List.set_cons_succ]
      refine wp_val (by rfl) (.bool true) (by go_simp) ?_
      simp only [Act.put, List.setIfInBounds_toArray, List.set_cons_zero, List.set_cons_succ]
      refine wp_val (by rfl) (.int .i64 0) (by go_simp) ?_
      simp only [Act.put, List.setIfInBounds_toArray, List.set_cons_zero, List.set_cons_succ]
      refine wp_val (by rfl) (.bool true) (by go_simp) ?_
      simp only [Act.put, List.setIfInBounds_toArray, List.set_cons_zero, List.set_cons_succ]
      refine wp_val (by rfl) (.bool true) (by go_simp) ?_
      simp only [Act.put, List.setIfInBounds_toArray, List.set_cons_zero, List.set_cons_succ]
      refine wp_val (by rfl) (.bool true) (by go_simp) ?_
      simp only [Act.put, List.setIfInBounds_toArray, List.set_cons_zero, List.set_cons_succ]
      refine wp_val (by rfl) (X.val kx) (run_load_msg rfl (by rfl) hY) ?_
      simp only [Act.put, List.setIfInBounds_toArray, List.set_cons_zero, List.set_cons_succ]
      refine wp_val (by rfl) (M.val hA) (run_load_msg rfl (by rfl) hC10) ?_
      simp only [Act.put, List.setIfInBounds_toArray, List.set_cons_zero, List.set_cons_succ]
      go_wp2_with fail
      refine (wisame_any w9 X M kx hA hXA hinA hTw hSh).mono ?_
      rintro e w10 ⟨r, rfl, hr, hx10⟩
      obtain rfl : r = true := hr.2 hSp
      clear hr
      go_wp2_with fail
      go_ret
      exact ⟨rfl, hxx9.comp hx10⟩
end Go.Proofs.Ytddobhihjljcgaa
