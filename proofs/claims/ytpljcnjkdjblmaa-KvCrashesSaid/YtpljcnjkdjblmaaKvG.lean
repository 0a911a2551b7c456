/- The walk of kv's Apply, where there is room and the power stays. -/
import Derived.Test.YtpljcnjkdjblmaaKvF
namespace Go.Esc
open Go.RowKit
/-- What a batch leaves. -/
def bDs (ds : DS) (m : KvM) (l : List ChangeR) : DS := if kvErr m l = 0 ∧ l ≠ [] then (ds.jadd (kvEnc l)).1 else ds
def bN (n : Nat) (m : KvM) (l : List ChangeR) : Nat := if kvErr m l = 0 ∧ l ≠ [] then n + 1 else n
def bM (m : KvM) (l : List ChangeR) : KvM := if kvErr m l = 0 then kvLays m l else m
def three (g s j : Nat) : Nat → Prop := fun k => k = g ∨ k = s ∨ k = j
theorem St.map {w : World} {g s j b n b' : Nat} {ds : DS} {m m' : KvM} (h : St w g s j b ds n m) (hm : MapIn w b' m') (hg : b' ≠ g) (hs : b' ≠ s) (hj : b' ≠ j) (hD : Dk w g ds (fun i => i = s ∨ i = j ∨ i = b')) :
    St (w.setCell ⟨s, 1, none⟩ (.map (some b'))) g s j b' ds n m' := by
  have hx : Ext (just s) w (w.setCell ⟨s, 1, none⟩ (.map (some b'))) := Ext.setCell _ _ _ rfl
  exact ⟨by have := h.blk.set 1 (.map (some b')) (by simp); exact this, hD.ext hx (fun e => h.sg (by have e : g = s := e; exact e.symm)) (fun k _ e => .inl e), h.jn.ext (by simp) hx (fun e => h.sj (by have e : j = s := e; exact e.symm)), hm.ext hx (fun e => hs e), h.sg, h.jg, hg, h.sj, fun e => hs e.symm, fun e => hj e.symm⟩
end Go.Esc
namespace Go.Proofs.Ytpljcnjkdjblmaa
open Go.RowKit Go.Esc
set_option linter.unusedVariables false
set_option linter.unusedSimpArgs false

set_option maxRecDepth 100000 in
set_option maxHeartbeats 8000000 in
theorem kvapply_any (w : World) (g s j b n : Nat) (ds : DS) (m : KvM) (h : St w g s j b ds n m) (hok : ds.ok) (hd : ds.done ≤ 999990) (hn : n < 16) (hml : m.length ≤ 300) (la : Option Addr) (l : List ChangeR) (lc : Nat) (hr : Rd w la (rows ChangeR.cells l)) (hlok : ∀ c ∈ l, c.ok) (hlc : l.length ≤ lc) (hcm : lc ≤ maxLen) (hjk : kvErr m l = 0 → l ≠ [] → (ds.jadd (kvEnc l)).2 = 0) :
    Calls Try.prog 14 #[.pointer (some ⟨s, 0, none⟩), .slice la l.length lc] w fun e w' => e = .returned (.int .i64 (kvErr m l)) ∧ ∃ b', St w' g s j b' (bDs ds m l) (bN n m l) (bM m l) ∧ (b' = b ∨ w.heap.size ≤ b') ∧ Ext (three g s j) w w' := by
  obtain ⟨l1, l2, l3, l4⟩ := h.low
  have c1 := h.blk.cell 1 _ rfl
  have hmp := h.mp
  have H := Lib.hid h
  have Hj := Lib.hid hjk
  have Hlok := Lib.hid hlok
  unfold maxLen at hcm
  obtain ⟨K, hK⟩ : ∃ K, K = kvErr m l := ⟨_, rfl⟩
  have HK := Lib.hid hK
  rw [← hK]
  clear h hjk hlok hK
  have same : ∀ w', K ≠ 0 ∨ l = [] → Ext no w w' → ∃ b', St w' g s j b' (bDs ds m l) (bN n m l) (bM m l) ∧ (b' = b ∨ w.heap.size ≤ b') ∧ Ext (three g s j) w w' := by
    intro w' hk hx
    have e1 : bDs ds m l = ds := by unfold bDs; rw [if_neg (by rw [← HK.out]; rintro ⟨a, b⟩; rcases hk with q | q; exact q a; exact b q)]
    have e2 : bN n m l = n := by unfold bN; rw [if_neg (by rw [← HK.out]; rintro ⟨a, b⟩; rcases hk with q | q; exact q a; exact b q)]
    have e3 : bM m l = m := by
      unfold bM
      rw [← HK.out]
      split
      · rename_i h0
        rcases hk with q | q
        · exact absurd h0 q
        · rw [q]; rfl
      · rfl
    rw [e1, e2, e3]
    exact ⟨b, H.out.no hx, .inl rfl, hx.mono (fun _ _ h => h.elim)⟩
  have Hsame := Lib.hid same
  clear same
  go_enter Try.func14, Try.ntmps14
  by_cases h20 : 20 < l.length
  · have d1 : decide ((20 : Int) < (l.length : Int)) = true := decT (by omega)
    have HE := Lib.hid (show K = 4 by rw [HK.out]; unfold kvErr; rw [if_pos h20])
    go_wp2_with fail
    go_ret
    exact ⟨by rw [HE.out]; rfl, Hsame.out w (.inl (by rw [HE.out]; simp)) (Ext.refl _ _)⟩
  have d1 : decide ((20 : Int) < (l.length : Int)) = false := decF (by omega)
  go_wp2_with fail
  refine (kvclone_any w b m hmp).mono ?_
  rintro e w1 ⟨rfl, hm1, hx1, hz1⟩
  obtain ⟨b', hb'⟩ : ∃ b', b' = w.heap.size := ⟨_, rfl⟩
  rw [← hb'] at hm1 ⊢
  have hb1 : w.heap.size ≤ b' := by omega
  have hb2 : b' < w1.heap.size := by omega
  clear hb' c1 hmp hz1
  go_wp2_with fail
  go_loopw [20] (fun s20 wr => ∃ i : Nat, s20 = .int .i64 i ∧ i ≤ l.length ∧ (∀ c ∈ l.take i, chErr c = 0) ∧ MapIn wr b' (kvLays m (l.take i)) ∧ Ext no w wr ∧ b' < wr.heap.size) (fun s20 _ => l.length - (intOf s20).toNat)
  case atStart => exact ⟨0, rfl, Nat.zero_le _, (fun c hc => by simp at hc), hm1, hx1, hb2⟩
  case round =>
    clear hm1 hx1 hb2
    obtain ⟨i, rfl, hil, hgo, hm1, hW, hb2⟩ := hrel
    have Hgo := Lib.hid hgo
    clear hgo
    by_cases hin : i < l.length
    · have d2 : decide (i < l.length) = true := decT hin
      obtain ⟨c, hcm'⟩ : ∃ c, l[i]? = some c := ⟨_, List.getElem?_eq_getElem hin⟩
      have hcok := Hlok.out c (List.mem_of_getElem? hcm')
      have hck := hcok.key
      have hcv := hcok.val
      have hfe := firstErr_at l i c hcm' Hgo.out
      have htk : l.take (i + 1) = l.take i ++ [c] := by rw [List.take_succ_eq_append_getElem hin, (List.getElem?_eq_some_iff.1 hcm').2]
      have HT := Lib.hid htk
      have hbad : chErr c ≠ 0 → K = chErr c := fun hne => by
        have := hfe hne
        rw [HK.out]
        unfold kvErr
        rw [if_neg h20, if_pos (by rw [this]; exact hne), this]
      have HB := Lib.hid hbad
      clear hfe htk hbad
      obtain ⟨ob, off, hsa, _⟩ := rows_shape kChange (by omega) hr (by omega)
      subst hsa
      have hrr := hr.ext hW (fun _ _ h => h)
      have y0 : wr.cell? ⟨ob, off + i * 4, none⟩ = some (.int .i64 c.coll) := rows_cell kChange hrr hcm' 0 _ rfl
      have y1 : wr.cell? ⟨ob, off + i * 4 + 1, none⟩ = some (.string (str c.key)) := rows_cell kChange hrr hcm' 1 _ rfl
      have y2 : wr.cell? ⟨ob, off + i * 4 + 2, none⟩ = some (.string (str c.val)) := rows_cell kChange hrr hcm' 2 _ rfl
      have y3 : wr.cell? ⟨ob, off + i * 4 + 3, none⟩ = some (.bool c.del) := rows_cell kChange hrr hcm' 3 _ rfl
      clear hrr hcm'
      go_upto_region 8 with fail
      have hX := Blk.lit wr #[.int .i64 c.coll, .string (str c.key), .string (str c.val), .bool c.del] 39
      have hxa := Ext.alloc no wr (.cells #[.int .i64 c.coll, .string (str c.key), .string (str c.val), .bool c.del] 39)
      replace hW := hW.comp hxa
      replace hm1 := hm1.no hxa
      have hbg := hb2
      replace hb2 := Nat.lt_of_lt_of_le hb2 hxa.size
      generalize wr.alloc (.cells #[.int .i64 c.coll, .string (str c.key), .string (str c.val), .bool c.del] 39) = w2 at *
      generalize wr.heap.size = gx at *
      clear hxa y0 y1 y2 y3
      have z0 := hX.cell 0 _ rfl
      have z1 := hX.cell 1 _ rfl
      have z2 := hX.cell 2 _ rfl
      have z3 := hX.cell 3 _ rfl
      by_cases g1 : c.coll < 0
      · have e1 : decide (c.coll < 0) = true := decT g1
        have hE : chErr c = 1 := by unfold chErr; rw [if_pos (.inl g1)]
        have HE := Lib.hid (show K = 1 by rw [HB.out (by rw [hE]; simp), hE])
        clear g1 hE
        go_wp2_with fail
        go_ret
        exact ⟨by rw [HE.out]; rfl, Hsame.out _ (.inl (by rw [HE.out]; simp)) hW⟩
      have e1 : decide (c.coll < 0) = false := decF g1
      by_cases g2 : 3 ≤ c.coll
      · have e2 : decide (3 ≤ c.coll) = true := decT g2
        have hE : chErr c = 1 := by unfold chErr; rw [if_pos (.inr g2)]
        have HE := Lib.hid (show K = 1 by rw [HB.out (by rw [hE]; simp), hE])
        clear g1 g2 hE
        go_wp2_with fail
        go_ret
        exact ⟨by rw [HE.out]; rfl, Hsame.out _ (.inl (by rw [HE.out]; simp)) hW⟩
      have e2 : decide (3 ≤ c.coll) = false := decF g2
      have h5 : ∀ q : ¬ (textOk c.key = true ∧ c.key ≠ [] ∧ textOk c.val = true), K = 5 := fun q => by
        have : chErr c = 5 := by unfold chErr; rw [if_neg (by omega), if_neg q]
        rw [HB.out (by rw [this]; simp), this]
      have H5 := Lib.hid h5
      have h0 : textOk c.key = true ∧ c.key ≠ [] ∧ textOk c.val = true → chErr c = 0 := fun q => by unfold chErr; rw [if_neg (by omega), if_pos q]
      have H0 := Lib.hid h0
      clear g1 g2 h5 h0 HB
      go_wp2_with fail
      refine (kvtext_any w2 c.key hck).mono ?_
      rintro e _ ⟨rfl, rfl⟩
      cases t1 : textOk c.key with
      | false =>
        have HE := Lib.hid (H5.out (by rw [t1]; simp))
        go_wp2_with fail
        go_ret
        exact ⟨by rw [HE.out]; rfl, Hsame.out _ (.inl (by rw [HE.out]; simp)) hW⟩
      | true =>
        by_cases t2 : c.key = []
        · have HE := Lib.hid (H5.out (fun q => q.2.1 t2))
          have e3 : ((str c.key).toList == ([] : List UInt8)) = true := by rw [toList_str, t2]; rfl
          clear t2
          go_wp2_with fail
          go_ret
          exact ⟨by rw [HE.out]; rfl, Hsame.out _ (.inl (by rw [HE.out]; simp)) hW⟩
        · have e3 : ((str c.key).toList == ([] : List UInt8)) = false := by rw [toList_str, beq_eq_false_iff_ne]; exact t2
          go_wp2_with fail
          refine (kvtext_any w2 c.val hcv).mono ?_
          rintro e _ ⟨rfl, rfl⟩
          cases t4 : textOk c.val with
          | false =>
            have HE := Lib.hid (H5.out (by rw [t4]; simp))
            go_wp2_with fail
            go_ret
            exact ⟨by rw [HE.out]; rfl, Hsame.out _ (.inl (by rw [HE.out]; simp)) hW⟩
          | true =>
            have HZ := Lib.hid (H0.out ⟨t1, t2, t4⟩)
            go_wp2_with fail
            refine (kvput_any w2 b' (kvLays m (l.take i)) c hm1 hcok).mono ?_
            rintro e w3 ⟨rfl, hm3, hx3⟩
            have hgo' : ∀ d ∈ l.take (i + 1), chErr d = 0 := fun d hd => by
              rw [HT.out] at hd
              rcases List.mem_append.1 hd with hd | hd
              · exact Hgo.out d hd
              · rw [List.mem_singleton] at hd; rw [hd]; exact HZ.out
            have Hgo' := Lib.hid hgo'
            have hm4 : MapIn w3 b' (kvLays m (l.take (i + 1))) := by rw [HT.out, kvLays_append]; exact hm3
            have hW3 := hW.trans hx3 (fun k hk e => by have e : k = b' := e; omega)
            have hb3 := Nat.lt_of_lt_of_le hb2 hx3.size
            clear hgo' hm3 hx3 hW hm1 z0 z1 z2 z3 hX
            go_wp2_with fail
            go_roundw
            case rel => exact ⟨i + 1, by go_num, by omega, Hgo'.out, hm4, hW3, hb3⟩
            case measure => simp [intOf]; omega
    · have hiE : i = l.length := by omega
      subst hiE
      have d2 : decide (l.length < l.length) = false := decF (by omega)
      rw [List.take_of_length_le (Nat.le_refl _)] at hm1
      have hfe : firstErr l = 0 := (firstErr_zero l).2 (fun c hc => Hgo.out c (by rw [List.take_of_length_le (Nat.le_refl _)]; exact hc))
      have hle := kvLays_len l m
      have hml2 := maplen_run hm1 (by omega)
      have hKE : K = if 300 < (kvLays m l).length then 4 else 0 := by
        rw [HK.out]
        unfold kvErr
        rw [if_neg h20, if_neg (by rw [hfe]; simp)]
      have HKE := Lib.hid hKE
      clear hKE hin hil
      by_cases h300 : 300 < (kvLays m l).length
      · have d3 : decide ((300 : Int) < ((kvLays m l).length : Int)) = true := decT (by omega)
        have HE := Lib.hid (show K = 4 by rw [HKE.out, if_pos h300])
        go_wp2_with fail
        go_ret
        exact ⟨by rw [HE.out]; rfl, Hsame.out _ (.inl (by rw [HE.out]; simp)) hW⟩
      have d3 : decide ((300 : Int) < ((kvLays m l).length : Int)) = false := decF (by omega)
      have HE := Lib.hid (show K = 0 by rw [HKE.out, if_neg h300])
      by_cases hl0 : l.length = 0
      · have hnil : l = [] := List.length_eq_zero_iff.1 hl0
        have d4 : ((l.length : Int) == 0) = true := by rw [beq_iff_eq]; omega
        have Hnil := Lib.hid hnil
        clear hnil hl0
        go_wp2_with fail
        go_ret
        exact ⟨by rw [HE.out]; rfl, Hsame.out _ (.inr Hnil.out) hW⟩
      have d4 : ((l.length : Int) == 0) = false := by rw [beq_eq_false_iff_ne]; omega
      have hne : l ≠ [] := fun e => hl0 (by rw [e]; rfl)
      have hshort : ∀ c ∈ l, I64ok c.coll ∧ c.short := fun c hc => chErr_short ((firstErr_zero l).1 hfe c hc)
      go_wp2_with fail
      refine (kvbytes_any wr la l lc (hr.ext hW (fun _ _ h => h)) (by omega) hshort).mono ?_
      rintro e w4 ⟨a4, c4, rfl, hown4, hx4⟩
      have hW4 := hW.comp hx4
      have hm4 := hm1.no hx4
      have hb4 := Nat.lt_of_lt_of_le hb2 hx4.size
      have hS4 := H.out.blk.ext (by simp) hW4 (fun h => h)
      have hD4 := (H.out.dk.fewer (N' := fun i => i = s ∨ i = j ∨ i = b') (fun k hk hh => by rcases hh with q | q | q; exact .inl q; exact .inr (.inl q); omega)).no hW4
      have hJ4 : Blk w4 j (jcells g n) := H.out.jn.ext (by simp) hW4 (fun h => h)
      have hwl := hW4.size
      have hjk := Hj.out (by rw [← HK.out]; exact HE.out) hne
      have hel : (kvEnc l).length ≤ 4194304 := by
        have h1 := (encI_length l.length ⟨by omega, by omega⟩).1
        have h2 := chEncs_len l hshort
        unfold kvEnc
        rw [List.length_append]
        omega
      clear hm1 hx4 hW hml2
      go_wp2_with fail
      refine (kvwrite_add w4 g s j n (.map (some b)) ds (fun i => i = s ∨ i = j ∨ i = b') hS4 hD4 hJ4 H.out.jg (.inr (.inl rfl)) (fun k hk => by rcases hk with rfl | rfl | rfl <;> omega) hok hd hn a4 c4 (kvEnc l) hown4.rd hel (by rw [hjk]; simp)).mono ?_
      rw [hjk]
      rintro e w5 ⟨rfl, hD5, hJ5, hx5⟩
      have hS5 := hS4.ext (by simp) hx5 (fun h => by rcases h with q | q; exact H.out.sg q; exact H.out.sj q)
      have hm5 := hm4.ext hx5 (fun h => by rcases h with q | q <;> omega)
      have hx6 : Ext (just s) w5 (w5.setCell ⟨s, 1, none⟩ (.map (some b'))) := Ext.setCell _ _ _ rfl
      have hSt : St w5 g s j b' (ds.jadd (kvEnc l)).1 (n + 1) (kvLays m l) → True := fun _ => trivial
      have hfin : St (w5.setCell ⟨s, 1, none⟩ (.map (some b'))) g s j b' (ds.jadd (kvEnc l)).1 (n + 1) (kvLays m l) := by
        refine ⟨by have := hS5.set 1 (.map (some b')) (by simp); exact this, hD5.ext hx6 (fun e => H.out.sg (by have e : g = s := e; exact e.symm)) (fun k _ e => .inl e), ?_, hm5.ext hx6 (fun e => by have e : b' = s := e; omega), H.out.sg, H.out.jg, by omega, H.out.sj, by omega, by omega⟩
        have := hJ5.ext (by simp [jcells]) hx6 (fun e => H.out.sj (by have e : j = s := e; exact e.symm))
        exact this
      have e1 : bDs ds m l = (ds.jadd (kvEnc l)).1 := by unfold bDs; rw [if_pos ⟨by rw [← HK.out]; exact HE.out, hne⟩]
      have e2 : bN n m l = n + 1 := by unfold bN; rw [if_pos ⟨by rw [← HK.out]; exact HE.out, hne⟩]
      have e3 : bM m l = kvLays m l := by unfold bM; rw [if_pos (by rw [← HK.out]; exact HE.out)]
      have hWW : Ext (three g s j) w (w5.setCell ⟨s, 1, none⟩ (.map (some b'))) := ((hW4.mono (fun _ _ h => h.elim)).comp (hx5.mono (fun _ _ h => by rcases h with q | q; exact .inl q; exact .inr (.inr q)))).comp (hx6.mono (fun _ _ h => .inr (.inl h)))
      have HF := Lib.hid (show ∃ b', St (w5.setCell ⟨s, 1, none⟩ (.map (some b'))) g s j b' (bDs ds m l) (bN n m l) (bM m l) ∧ (b' = b ∨ w.heap.size ≤ b') ∧ Ext (three g s j) w (w5.setCell ⟨s, 1, none⟩ (.map (some b'))) from ⟨b', by rw [e1, e2, e3]; exact hfin, .inr hb1, hWW⟩)
      have HF2 := Lib.hid (And.intro (show St (w5.setCell ⟨s, 1, none⟩ (.map (some b'))) g s j b' (bDs ds m l) (bN n m l) (bM m l) by rw [e1, e2, e3]; exact hfin) hWW)
      have s1 := hS5.cell 1 _ rfl
      have sf := hS5.fr 1
      clear e1 e2 e3 hfin hSt hWW hx6 hm5 hS5 hD5 hJ5 hx5 hS4 hD4 hJ4 hm4 hown4 HF
      go_wp2_with fail
      go_ret
      exact ⟨by rw [HE.out]; rfl, b', HF2.out.1, .inr hb1, HF2.out.2⟩
end Go.Proofs.Ytpljcnjkdjblmaa
