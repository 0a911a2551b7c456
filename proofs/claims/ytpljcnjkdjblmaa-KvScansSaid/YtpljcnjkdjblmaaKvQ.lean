/- kv's Scan. -/
import Derived.Test.YtpljcnjkdjblmaaKvP
import Derived.Test.YtpljcnjkdjblmaaKvR
import Derived.Test.YtpljcnjkdjblmaaKC
namespace Go.Proofs.Ytpljcnjkdjblmaa
open Go.RowKit Go.Esc
set_option linter.unusedVariables false
set_option linter.unusedSimpArgs false
attribute [local go_sem] Oper.semAt_some
theorem TPairKv : SlT Try.prog 60 64 (.agg #[.string { data := #[] }, .string { data := #[] }]) 2 32 := ⟨Try.underlying60, by kernel_rfl, rfl, by decide⟩

set_option maxRecDepth 100000 in
set_option maxHeartbeats 8000000 in
theorem kvscan_any (w : World) (s j b : Nat) (m : KvM) (c : Int) (start : List UInt8) (n : Int) (ks : List (List UInt8)) (hS : Blk w s [.pointer (some ⟨j, 0, none⟩), .map (some b)]) (hm : MapIn w b m) (hks : KsOk m c start ks) (hkl : ks.length ≤ m.length) (hml : m.length ≤ 1000000) :
    Calls Try.prog 25 #[.pointer (some ⟨s, 0, none⟩), .int .i64 c, .string (str start), .int .i64 n] w fun e w' => ∃ a q, e = .returned (.slice a ((scanM m c ks).take n.toNat).length q) ∧ Go.Esc.Own w' w.heap.size a 2 ((scanM m c ks).take n.toNat).length q (rows PairR.cells ((scanM m c ks).take n.toNat)) ∧ Ext no w w' := by
  obtain ⟨xs, hxs⟩ : ∃ xs, xs = scanM m c ks := ⟨_, rfl⟩
  have hxl : xs.length = ks.length := by rw [hxs]; unfold scanM; rw [List.length_map]
  have HXS := Lib.hid hxs
  rw [← hxs]
  have HKS := Lib.hid hks
  clear hks hxs
  have hlows : s < w.heap.size ∧ b < w.heap.size := ⟨hS.lt (by simp), hm.lt⟩
  refine (callsIn_wide (n := 0)).1 (callsIn_of_wp_marks Try.func25 rfl trivial (wpIn_wide.2 ?_) rfl)
  simp only [Try.ntmps25, List.size_toArray, List.length_cons, List.length_nil, Nat.reduceAdd, Nat.reduceSub, Array.replicate_succ, Array.replicate_zero, List.push_toArray, List.append_toArray, List.nil_append, List.cons_append]
  go_upto_region 2 with fail
  have hb1 := Blk.lit w #[.int .i64 n] 3
  have hb2 := Blk.at (w.alloc (.cells #[.int .i64 n] 3)) #[.slice none 0 0] 60 (w.heap.size + 1) (by simp)
  have x1 := Ext.alloc no w (.cells #[.int .i64 n] 3)
  have x2 := Ext.alloc no (w.alloc (.cells #[.int .i64 n] 3)) (.cells #[.slice none 0 0] 60)
  replace hb1 := hb1.ext (by simp) x2 (fun h => h)
  replace x1 := x1.comp x2
  have hz2 : ((w.alloc (.cells #[.int .i64 n] 3)).alloc (.cells #[.slice none 0 0] 60)).heap.size = w.heap.size + 2 := by simp
  clear x2
  generalize (w.alloc (.cells #[.int .i64 n] 3)).alloc (.cells #[.slice none 0 0] 60) = w2 at *
  obtain ⟨go, hgo⟩ : ∃ go, go = w.heap.size + 1 := ⟨_, rfl⟩
  obtain ⟨gn, hgn⟩ : ∃ gn, gn = w.heap.size := ⟨_, rfl⟩
  rw [← hgo] at hb2 ⊢
  rw [← hgn] at hb1 ⊢
  have hg1 : w.heap.size ≤ gn ∧ gn < go ∧ go < w2.heap.size := by omega
  clear hgo hgn hz2
  go_wp2_with fail
  refine (kvpairs_any w2 s c start).mono ?_
  rintro e w3 ⟨rfl, hB1, hB2, hB3, hx3, hz3⟩
  have hxW := x1.comp hx3
  have hS3 := hS.ext (by simp) hxW (fun h => h)
  have hm3 := hm.no hxW
  have hbo := hb2.ext (by simp) hx3 (fun h => h)
  have hbn := hb1.ext (by simp) hx3 (fun h => h)
  have hw2 := x1.size
  generalize w2.heap.size = g2 at *
  clear hb1 hb2 x1 hx3
  have hgv := kvgives_any w3 s j b m g2 (g2 + 1) (g2 + 1 + 1) c start ks (just go) hB1 hB2 hB3 hS3 hm3 HKS.out hml (fun k hk => by have hk : k = go := hk; omega) ⟨fun h => by have h : g2 = go := h; omega, fun h => by have h : g2 + 1 = go := h; omega, fun h => by have h : g2 + 1 + 1 = go := h; omega, fun h => by have h : s = go := h; omega, fun h => by have h : b = go := h; omega⟩
  rw [← HXS.out] at hgv
  go_wp2_with fail
  refine wp_rangeFunc_gives (gf := 56) rfl (enters_of Try.func56 (by kernel_rfl) rfl) (fun _ => rfl) (fun k hk => by have hk : k = go := hk; omega) hgv 0
    (fun M i W => (∃ a q, Blk W go [.slice a i q] ∧ Go.Esc.Own W M a 2 i q (rows PairR.cells (xs.take i))) ∧ i ≤ n.toNat ∧ i ≤ xs.length ∧ Blk W gn [.int .i64 n] ∧ Ext no w W)
    (fun W => ∃ M a q, w3.heap.size + 2 ≤ M ∧ Blk W go [.slice a ((xs.take n.toNat).length) q] ∧ Go.Esc.Own W M a 2 ((xs.take n.toNat).length) q (rows PairR.cells (xs.take n.toNat)) ∧ Ext no w W)
    ?i0 ?is ?ix ?a1 ?assign ?body ?done ?stop
  case i0 =>
    intro W' hx
    refine ⟨⟨none, 0, hbo.ext (by simp) hx (fun h => h), Go.Esc.Own.nil _ _ _⟩, Nat.zero_le _, Nat.zero_le _, hbn.ext (by simp) hx (fun h => h), hxW.comp hx⟩
  case is =>
    rintro M i A B hM ⟨⟨a, q, h1, h2⟩, h3, h4, h5, h6⟩ hx
    refine ⟨⟨a, q, h1.ext (by simp) hx (by unfold own2; omega), h2.ext hx (fun ad had => by have := (h2.base ad had).1; unfold own2; omega)⟩, h3, h4, h5.ext (by simp) hx (by unfold own2; omega), h6.trans hx (fun k hk => by unfold own2; omega)⟩
  case ix =>
    rintro A B ⟨M, a, q, hM, h1, h2, h3⟩ hx
    exact ⟨M, a, q, hM, h1.ext (by simp) hx (by unfold own2; omega), h2.ext hx (fun ad had => by have := (h2.base ad had).1; unfold own2; omega), h3.trans hx (fun k hk => by unfold own2; omega)⟩
  case assign =>
    intro l x W K hK
    gi_wp2
    exact hK
  case body =>
    rintro l M i x W hM hMW ⟨⟨a, q, h1, h2⟩, h3, h4, h5, h6⟩ hxi
    have y0 := h1.cell 0 _ rfl
    have y1 := h1.fr 0
    have y2 := h5.cell 0 _ rfl
    have hw3 := hxW.size
    by_cases hni : n ≤ (i : Int)
    · have d1 : decide (n ≤ (i : Int)) = true := decT hni
      gi_wp2
      have hin : i = n.toNat := by omega
      show 0 = 0 ∧ Ext _ W W ∧ ∃ M a q, _
      refine ⟨rfl, Ext.refl _ _, M, a, q, hM, ?_, ?_, h6⟩
      · rw [← hin, List.length_take, Nat.min_eq_left h4]; exact h1
      · rw [← hin, List.length_take, Nat.min_eq_left h4]; exact h2
    · have d1 : decide (n ≤ (i : Int)) = false := decF hni
      have hil : i < xs.length := (List.getElem?_eq_some_iff.1 hxi).1
      have hX1 : Rd (W.alloc (.cells #[.string (str x.key), .string (str x.val)] 64)) (some ⟨W.heap.size, 0, none⟩) (PairR.cells x) := Rd.lit W #[.string (str x.key), .string (str x.val)] _ _
      have hxa := Ext.alloc no W (.cells #[.string (str x.key), .string (str x.val)] 64)
      gi_wp2_with (gi_at_builtin; refine wpListIn_append TPairKv rfl rfl rfl (h2.alloc _) rfl hX1 rfl (one1Pair x) ?c1 ?c2 ?c3 ?_)
      case c1 => unfold maxLen; omega
      case c2 => omega
      case c3 => first | omega | (simp; omega)
      intro a' c' w5 hp5
      have hb5 : ∀ k, k < M → ¬ ∃ ad, a = some ad ∧ ad.block = k := by rintro k hk ⟨ad, h, hh⟩; have := (h2.base ad h).1; omega
      have h1' := (h1.ext (by simp) hxa (fun h => h)).ext (by simp) hp5.ext (by rintro ⟨ad, h, hh⟩; have := (h2.base ad h).1; omega)
      have h5' := (h5.ext (by simp) hxa (fun h => h)).ext (by simp) hp5.ext (by rintro ⟨ad, h, hh⟩; have := (h2.base ad h).1; omega)
      have ho : Go.Esc.Own w5 M a' 2 (i + 1) c' (rows PairR.cells (xs.take (i + 1))) := by
        have q := hp5.own
        rw [List.take_succ_eq_append_getElem hil, rows_append, rows_one, (List.getElem?_eq_some_iff.1 hxi).2]
        exact q
      have hx5 : Ext (fun k => (just go) k ∨ M ≤ k) W w5 := (hxa.mono (fun _ _ h => h.elim)).comp (hp5.ext.mono (fun k _ h => by obtain ⟨ad, h, hh⟩ := h; have := (h2.base ad h).1; exact .inr (by omega)))
      have y3 := h1'.cell 0 _ rfl
      have y4 := h1'.fr 0
      clear y0 y1 y2 hX1 hp5 hxa h1 h2 h5
      gi_wp2
      have hset := h1'.set 0 (.slice a' (i + 1) c') (by simp)
      show Ext _ W _ ∧ _
      have hxs : Ext (just go) w5 (w5.setCell ⟨go, 0, none⟩ (.slice a' (i + 1) c')) := Ext.setCell _ _ _ rfl
      refine ⟨hx5.comp (hxs.mono (fun _ _ h => .inl h)), ⟨⟨a', c', hset, ho.ext hxs (fun ad had => by have := (ho.base ad had).1; intro h; have h : ad.block = go := h; omega)⟩, by omega, by omega, h5'.ext (by simp) hxs (fun h => by have h : gn = go := h; omega), ?_⟩⟩
      exact h6.trans (hx5.comp (hxs.mono (fun _ _ h => .inl h))) (fun k hk h => by rcases h with h | h; have h : k = go := h; omega; omega)
  case done =>
    rintro D M W hD hD2 hM hDW ⟨⟨a, q, h1, h2⟩, h3, h4, h5, h6⟩ hK
    have y0 := h1.cell 0 _ rfl
    have hxo := Ext.putObj (S := just D) W D (.deferred none) rfl
    go_wp2_with fail
    refine ⟨by simp, .inl ⟨_, _, rfl, run_takeDeferred hK, ?_⟩⟩
    have hw3 := hxW.size
    have e : xs.take n.toNat = xs := List.take_of_length_le (by omega)
    rw [List.take_of_length_le (Nat.le_refl _)] at h2
    rw [e]
    refine ⟨_, results_tmp rfl _ _ _, a, q, by rw [hxl]; rfl, (h2.ext hxo (fun ad had => by have := (h2.base ad had).1; intro h; have h : ad.block = D := h; omega)).mono (by omega), h6.trans hxo (fun k hk h => by have h : k = D := h; omega)⟩
  case stop =>
    rintro D W hD hD2 hDW ⟨M, a, q, hM, h1, h2, h3⟩ hK
    have y0 := h1.cell 0 _ rfl
    have hxo := Ext.putObj (S := just D) W D (.deferred none) rfl
    go_wp2_with fail
    refine ⟨by simp, .inl ⟨_, _, rfl, run_takeDeferred hK, ?_⟩⟩
    have hw3 := hxW.size
    refine ⟨_, results_tmp rfl _ _ _, a, q, by rw [List.length_take, hxl]; rfl, (h2.ext hxo (fun ad had => by have := (h2.base ad had).1; intro h; have h : ad.block = D := h; omega)).mono (by omega), h3.trans hxo (fun k hk h => by have h : k = D := h; omega)⟩
/-- .. where it tells what the reference's rows do. -/
theorem kvscanX_any (w : World) (s j b : Nat) (m : KvM) (X : KvX) (c : Int) (start : List UInt8) (n : Int) (hS : Blk w s [.pointer (some ⟨j, 0, none⟩), .map (some b)]) (hm : MapIn w b m) (ht : Tells m X) (hc : c = 0 ∨ c = 1 ∨ c = 2) (hml : m.length ≤ 1000000) :
    Calls Try.prog 25 #[.pointer (some ⟨s, 0, none⟩), .int .i64 c, .string (str start), .int .i64 n] w fun e w' => ∃ a q, e = .returned (.slice a ((scanX X c start).take n.toNat).length q) ∧ Go.Esc.Own w' w.heap.size a 2 ((scanX X c start).take n.toNat).length q (rows PairR.cells ((scanX X c start).take n.toNat)) ∧ Ext no w w' := by
  obtain ⟨ks, hks, hkl⟩ := KsOk.some m c start hm.once
  rw [← scan_same ht c hc start ks hks.mem hks.rise]
  exact kvscan_any w s j b m c start n ks hS hm hks hkl hml
end Go.Proofs.Ytpljcnjkdjblmaa
