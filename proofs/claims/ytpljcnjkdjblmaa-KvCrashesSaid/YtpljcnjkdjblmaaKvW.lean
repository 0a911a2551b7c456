/- kv's whole: all of a store as a batch's bytes. -/
import Derived.Test.YtpljcnjkdjblmaaKvQ
import Derived.Test.YtpljcnjkdjblmaaKvZ
namespace Go.Esc
open Go.RowKit
set_option linter.unusedVariables false
/-- What a loop over iterators leaves to be collected. -/
def marks (Ds : List Nat) : List Deferred := Ds.map (fun D => { target := .collected D, args := #[] })
theorem leaves_marks {F : Fence} {n : Nat} {P : Program} {fn : Func} {tmps : Array Value} {R : Ending → World → Prop} : ∀ (Ds : List Nat) (w : World), Ds.Nodup → (∀ D ∈ Ds, w.heap[D]? = some (.deferred (some []))) →
    (∀ w', Ext (fun k => k ∈ Ds) w w' → LeavesInM F n P fn tmps R [] .returning w') → LeavesInM F n P fn tmps R (marks Ds) .returning w
  | [], w, _, _, h => h w (Ext.refl _ _)
  | D :: Ds, w, hn, hd, h => by
    have hn' := List.nodup_cons.1 hn
    refine ⟨by simp, .inl ⟨_, _, rfl, run_takeDeferred (hd D (by simp)), ?_⟩⟩
    have hx := Ext.putObj (S := fun k => k ∈ D :: Ds) w D (.deferred none) (by simp)
    refine leaves_marks Ds _ hn'.2 (fun E hE => ?_) (fun w' hw => h w' (hx.comp (hw.mono (fun k _ hk => List.mem_cons_of_mem _ hk))))
    have hne : E ≠ D := fun e => hn'.1 (e ▸ hE)
    rw [World.putObj_heap_other hne]
    exact hd E (List.mem_cons_of_mem _ hE)
/-- The first c collections, as a batch. -/
def preX (X : KvX) (c : Nat) : List ChangeR := if c = 0 then [] else if c = 1 then X.r0.map (chOf 0) else if c = 2 then X.r0.map (chOf 0) ++ X.r1.map (chOf 1) else wholeX X
theorem preX_succ (X : KvX) (c : Nat) (h : c < 3) : preX X (c + 1) = preX X c ++ (X.row c).map (chOf c) := by
  have : c = 0 ∨ c = 1 ∨ c = 2 := by omega
  rcases this with rfl | rfl | rfl
  · simp [preX, KvX.row]
  · simp [preX, KvX.row]
  · simp [preX, KvX.row, wholeX]
theorem preX_len (X : KvX) (c : Nat) (h : c < 3) : (preX X c).length + (X.row c).length ≤ X.len := by
  have : c = 0 ∨ c = 1 ∨ c = 2 := by omega
  unfold KvX.len
  rcases this with rfl | rfl | rfl
  · simp [preX, KvX.row]; omega
  · simp [preX, KvX.row]
  · simp [preX, KvX.row]
end Go.Esc
namespace Go.Proofs.Ytpljcnjkdjblmaa
open Go.RowKit Go.Esc
set_option linter.unusedVariables false
set_option linter.unusedSimpArgs false
attribute [local go_sem] Oper.semAt_some

set_option maxRecDepth 100000 in
set_option maxHeartbeats 16000000 in
theorem kvwhole_any (w : World) (s j b : Nat) (m : KvM) (X : KvX) (hS : Blk w s [.pointer (some ⟨j, 0, none⟩), .map (some b)]) (hm : MapIn w b m) (ht : Tells m X) (hg : X.Good) (hml : m.length ≤ 300) :
    Calls Try.prog 53 #[.pointer (some ⟨s, 0, none⟩)] w fun e w' => ∃ a q, e = .returned (.slice a (kvEnc (wholeX X)).length q) ∧ Go.Esc.Own w' w.heap.size a 1 (kvEnc (wholeX X)).length q (bs (kvEnc (wholeX X))) ∧ Ext no w w' := by
  have HT := Lib.hid ht
  have HG := Lib.hid hg
  have hXl := ht.len
  have hlows : s < w.heap.size ∧ b < w.heap.size := ⟨hS.lt (by simp), hm.lt⟩
  clear ht hg
  refine (callsIn_wide (n := 0)).1 (callsIn_of_wp_marks Try.func53 rfl trivial (wpIn_wide.2 ?_) rfl)
  simp only [Try.ntmps53, List.size_toArray, List.length_cons, List.length_nil, Nat.reduceAdd, Nat.reduceSub, Array.replicate_succ, Array.replicate_zero, List.push_toArray, List.append_toArray, List.nil_append, List.cons_append]
  go_upto_region 2 with fail
  have hb2 := Blk.lit w #[.slice none 0 0] 36
  have x2 := Ext.alloc no w (.cells #[.slice none 0 0] 36)
  have hz2 : (w.alloc (.cells #[.slice none 0 0] 36)).heap.size = w.heap.size + 1 := by simp
  generalize w.alloc (.cells #[.slice none 0 0] 36) = w2 at *
  obtain ⟨go, hgo⟩ : ∃ go, go = w.heap.size := ⟨_, rfl⟩
  rw [← hgo] at hb2 ⊢
  have hg1 : w.heap.size ≤ go ∧ go < w2.heap.size := by omega
  clear hgo hz2
  go_wp2_with fail
  have hlo : w.heap.size ≤ w2.heap.size := x2.size
  refine wp_loop (fun A W => ∃ (c : Nat) (Ds : List Nat) (u1 u4 u5 u6 u8 u9 u10 u11 u12 u13 u14 u15 u16 u17 u18 u19 u20 u21 u22 u23 u24 : Value), A = { tmps := #[.pointer (some ⟨s, 0, none⟩), u1, .slice none 0 0, .pointer (some ⟨go, 0, none⟩), u4, u5, u6, .int .i64 c, u8, u9, u10, u11, u12, u13, u14, u15, u16, u17, u18, u19, u20, u21, u22, u23, u24], defers := marks Ds } ∧ c ≤ 3 ∧ Ds.Nodup ∧ (∀ D ∈ Ds, W.heap[D]? = some (.deferred (some [])) ∧ w.heap.size ≤ D ∧ D ≠ go) ∧
    (∃ a q, Blk W go [.slice a (preX X c).length q] ∧ Go.Esc.Own W w.heap.size a 4 (preX X c).length q (rows ChangeR.cells (preX X c)) ∧ ∀ ad, a = some ad → ad.block ∉ Ds ∧ ad.block ≠ go) ∧ Ext no w W) (fun A _ => 3 - (intOf (A.tmps.getD 7 undef)).toNat) ?h0 ?round
  case h0 =>
    refine ⟨0, [], _, _, _, _, _, _, _, _, _, _, _, _, _, _, _, _, _, _, _, _, _, rfl, by omega, List.nodup_nil, (fun D hD => by cases hD), ⟨none, 0, hb2, Go.Esc.Own.nil _ _ _, (fun ad h => by cases h)⟩, x2⟩
  case round =>
    clear hb2 x2
    rintro A W ⟨c, Ds, u1, u4, u5, u6, u8, u9, u10, u11, u12, u13, u14, u15, u16, u17, u18, u19, u20, u21, u22, u23, u24, rfl, hc3, hnd, hDs, ⟨a, q, hB, hO, hA⟩, hx⟩
    have hgoW := hB.lt (by simp)
    have hwW := hx.size
    by_cases hc : c < 3
    · have d1 : decide ((c : Int) < 3) = true := decT (by omega)
      have HC := Lib.hid (show (c : Int) = 0 ∨ (c : Int) = 1 ∨ (c : Int) = 2 by omega)
      go_upto_region 5 with fail
      have hb4 := Blk.lit W #[.int .i64 c] 3
      have x4 := Ext.alloc no W (.cells #[.int .i64 c] 3)
      have hz4 : (W.alloc (.cells #[.int .i64 c] 3)).heap.size = W.heap.size + 1 := by simp
      generalize W.alloc (.cells #[.int .i64 c] 3) = W2 at *
      obtain ⟨gc, hgc⟩ : ∃ gc, gc = W.heap.size := ⟨_, rfl⟩
      rw [← hgc] at hb4 ⊢
      have hg4 : W.heap.size ≤ gc ∧ gc < W2.heap.size := by omega
      clear hgc hz4
      have y4 := hb4.cell 0 _ rfl
      go_wp2_with fail
      refine (kvpairs_any W2 s c []).mono ?_
      rintro e W3 ⟨rfl, hB1, hB2, hB3, hx3, hz3⟩
      have hxW := x4.comp hx3
      have hxw := hx.comp hxW
      have hS3 := hS.ext (by simp) hxw (fun h => h)
      have hm3 := hm.no hxw
      have hb3 := hB.ext (by simp) hxW (fun h => h)
      have ho3 := hO.ext hxW (fun _ _ h => h)
      have hc4 := hb4.ext (by simp) hx3 (fun h => h)
      have hd3 : ∀ D ∈ Ds, W3.heap[D]? = some (.deferred (some [])) ∧ D < W.heap.size ∧ w.heap.size ≤ D ∧ D ≠ go := fun D hD => by
        obtain ⟨h1, h2, h3⟩ := hDs D hD
        have hl := (Array.getElem?_eq_some_iff.1 h1).1
        exact ⟨(hxW.block D hl (fun h => h)).trans h1, hl, h2, h3⟩
      have HD3 := Lib.hid hd3
      obtain ⟨ks, hks, hkl⟩ := KsOk.some m c [] hm3.once
      have hsame := scan_same HT.out c HC.out [] ks hks.mem hks.rise
      rw [scanX_nil] at hsame
      have hba : ∀ ad, a = some ad → ad.block < W.heap.size := fun ad h => (hO.base ad h).2.1
      have HA := Lib.hid hA
      have HBa := Lib.hid hba
      have hw2W := hx3.size
      have hszW3 : W2.heap.size ≤ W3.heap.size := hx3.size
      generalize W2.heap.size = g2 at *
      clear hDs hb4 hB hO x4 hx3 hA hba hd3 y4
      have hgv := kvgives_any W3 s j b m g2 (g2 + 1) (g2 + 1 + 1) c [] ks (fun k => k = go ∨ ∃ ad, a = some ad ∧ ad.block = k) hB1 hB2 hB3 hS3 hm3 hks (by omega) (fun k hk => by rcases hk with hk | ⟨ad, h1, h2⟩; omega; have := HBa.out ad h1; omega)
        ⟨(by rintro (h | ⟨ad, h1, h2⟩); omega; have := HBa.out ad h1; omega), (by rintro (h | ⟨ad, h1, h2⟩); omega; have := HBa.out ad h1; omega), (by rintro (h | ⟨ad, h1, h2⟩); omega; have := HBa.out ad h1; omega),
          (by rintro (h | ⟨ad, h1, h2⟩); omega; have := (ho3.base ad h1).1; omega), (by rintro (h | ⟨ad, h1, h2⟩); omega; have := (ho3.base ad h1).1; omega)⟩
      rw [hsame] at hgv
      clear hsame hks hkl
      have hpl := preX_len X c hc
      have hps := preX_succ X c hc
      have HPS := Lib.hid hps
      clear hps
      go_wp2_with fail
      refine wp_rangeFunc_gives (gf := 56) rfl (enters_of Try.func56 (by kernel_rfl) rfl) (fun _ => rfl) (fun k hk => by rcases hk with hk | ⟨ad, h1, h2⟩; omega; have := HBa.out ad h1; omega) hgv 0
        (fun M i V => ∃ L, L = preX X c ++ ((X.row c).take i).map (chOf c) ∧ L.length = (preX X c).length + i ∧ i ≤ (X.row c).length ∧ (∃ a' q', Blk V go [.slice a' L.length q'] ∧ Go.Esc.Own V w.heap.size a' 4 L.length q' (rows ChangeR.cells L) ∧ ∀ ad, a' = some ad → (∃ ad0, a = some ad0 ∧ ad0.block = ad.block) ∨ M ≤ ad.block) ∧ Blk V gc [.int .i64 c] ∧ (∀ D ∈ Ds, V.heap[D]? = some (.deferred (some []))) ∧ Ext no w V)
        (fun W => False) ?i0 ?is ?ix ?a1 ?assign ?body ?done ?stop
      case i0 =>
        intro V hV
        exact ⟨_, rfl, by simp, Nat.zero_le _, ⟨a, q, by simpa using hb3.ext (by simp) hV (fun h => h), by simpa using ho3.ext hV (fun _ _ h => h), fun ad h => .inl ⟨ad, h, rfl⟩⟩, hc4.ext (by simp) hV (fun h => h), (fun D hD => (hV.block D (Array.getElem?_eq_some_iff.1 (HD3.out D hD).1).1 (fun h => h)).trans (HD3.out D hD).1), hxw.comp hV⟩
      case is =>
        rintro M i V V' hM ⟨L, hL, hLl, hi, ⟨a', q', h1, h2, h3⟩, h4, h5, h6⟩ hV
        refine ⟨L, hL, hLl, hi, ⟨a', q', h1.ext (by simp) hV (by unfold own2; omega), h2.ext hV (fun ad h => ?_), h3⟩, h4.ext (by simp) hV (by unfold own2; omega), (fun D hD => ?_), h6.trans hV (fun k hk => by unfold own2; omega)⟩
        · rcases h3 ad h with ⟨ad0, h7, h8⟩ | h7
          · have := HBa.out ad0 h7
            unfold own2
            omega
          · unfold own2
            omega
        · have h7 := h5 D hD
          have h8 := (HD3.out D hD).2.1
          exact (hV.block D (Array.getElem?_eq_some_iff.1 h7).1 (by unfold own2; omega)).trans h7
      case ix => exact fun _ _ h => h.elim
      case assign =>
        intro l x V K hK
        gi_wp2
        exact hK
      case body =>
        rintro l M i x V hM hMV ⟨L, hL, hLl, hi, ⟨a', q', h1, h2, h3⟩, h4, h5, h6⟩ hxi
        have HL := Lib.hid hL
        have HLl := Lib.hid hLl
        have hLa := Nat.le_of_eq hLl
        clear hL hLl
        have y0 := h1.cell 0 _ rfl
        have y2 := h4.cell 0 _ rfl
        have hX1 : Rd (V.alloc (.cells #[.int .i64 c, .string (str x.key), .string (str x.val), .bool false] 39)) (some ⟨V.heap.size, 0, none⟩) (ChangeR.cells (chOf c x)) := Rd.lit V #[.int .i64 c, .string (str x.key), .string (str x.val), .bool false] _ _
        have hxa := Ext.alloc no V (.cells #[.int .i64 c, .string (str x.key), .string (str x.val), .bool false] 39)
        have hil : i < (X.row c).length := (List.getElem?_eq_some_iff.1 hxi).1
        gi_wp2_with (gi_at_builtin; refine wpListIn_append TChange rfl rfl rfl (h2.alloc _) rfl hX1 rfl (one1Change (chOf c x)) ?c1 ?c2 ?c3 ?_)
        case c1 => unfold maxLen; omega
        case c2 => omega
        case c3 => first | omega | (simp; omega)
        intro a5 c5 w5 hp5
        have hab : ∀ k, k ≠ go → k < W3.heap.size → (∀ ad, a = some ad → ad.block ≠ k) → ¬ blk a' k := fun k h7 h8 h9 => by
          rintro ⟨ad, h, hh⟩
          rcases h3 ad h with ⟨ad0, h10, h11⟩ | h10
          · exact h9 ad0 h10 (by omega)
          · omega
        have hago : ¬ blk a' go := by
          rintro ⟨ad, h, hh⟩
          rcases h3 ad h with ⟨ad0, h10, h11⟩ | h10
          · have := (HA.out ad0 h10).2
            omega
          · omega
        have h1' := (h1.ext (by simp) hxa (fun h => h)).ext (by simp) hp5.ext hago
        have h4' := (h4.ext (by simp) hxa (fun h => h)).ext (by simp) hp5.ext (hab gc (by omega) (by omega) (fun ad h => by have := HBa.out ad h; omega))
        have h5' : ∀ D ∈ Ds, w5.heap[D]? = some (.deferred (some [])) := fun D hD => by
          have h7 := h5 D hD
          have h8 := (Array.getElem?_eq_some_iff.1 h7).1
          have h9 := (hxa.block D h8 (fun h => h)).trans h7
          have h10 := HD3.out D hD
          exact (hp5.ext.block D (Array.getElem?_eq_some_iff.1 h9).1 (hab D h10.2.2.2 (by omega) (fun ad h e => (HA.out ad h).1 (e ▸ hD)))).trans h9
        have ho : Go.Esc.Own w5 w.heap.size a5 4 (L.length + 1) c5 (rows ChangeR.cells (L ++ [chOf c x])) := by
          have q := hp5.own
          rw [rows_append, rows_one]
          exact q
        have hto : ∀ ad, a5 = some ad → (∃ ad0, a = some ad0 ∧ ad0.block = ad.block) ∨ M ≤ ad.block := fun ad h => by
          rcases hp5.loc with ⟨rfl, _⟩ | hl
          · exact h3 ad h
          · have h7 := hl ad h
            have h8 := hxa.size
            exact .inr (by omega)
        have hx5 : Ext (fun k => (k = go ∨ ∃ ad, a = some ad ∧ ad.block = k) ∨ M ≤ k) V w5 := (hxa.mono (fun _ _ h => h.elim)).comp (hp5.ext.mono (fun k _ h => by
          obtain ⟨ad, h, hh⟩ := h
          rcases h3 ad h with ⟨ad0, h10, h11⟩ | h10
          · exact .inl (.inr ⟨ad0, h10, by omega⟩)
          · exact .inr (by omega)))
        have y3 := h1'.cell 0 _ rfl
        have y4 := h1'.fr 0
        clear y0 y2 hX1 hxa h1 h2 h4 h5
        have HP5 := Lib.hid hp5
        clear hp5
        gi_wp2
        have hset := h1'.set 0 (.slice a5 (L.length + 1) c5) (by simp)
        show Ext _ V _ ∧ _
        have hxs : Ext (just go) w5 (w5.setCell ⟨go, 0, none⟩ (.slice a5 (L.length + 1) c5)) := Ext.setCell _ _ _ rfl
        have hxV := hx5.comp (hxs.mono (fun _ _ h => .inl (.inl h)))
        have hos := ho.ext hxs (fun ad had h => by
          have h : ad.block = go := h
          rcases hto ad had with ⟨ad0, h10, h11⟩ | h10
          · have := (HA.out ad0 h10).2
            omega
          · omega)
        have hnew : (L ++ [chOf c x]).length = L.length + 1 := by simp
        refine ⟨hxV, L ++ [chOf c x], ?_, by rw [hnew, HLl.out]; omega, by omega, ⟨a5, c5, by rw [hnew]; exact hset, by rw [hnew]; exact hos, hto⟩, h4'.ext (by simp) hxs (fun h => by have h : gc = go := h; omega), (fun D hD => ?_), ?_⟩
        · rw [List.take_succ_eq_append_getElem hil, List.map_append, ← List.append_assoc, ← HL.out, (List.getElem?_eq_some_iff.1 hxi).2]; rfl
        · have h7 := h5' D hD
          exact (hxs.block D (Array.getElem?_eq_some_iff.1 h7).1 (HD3.out D hD).2.2.2).trans h7
        · refine h6.trans hxV (fun k hk h => ?_)
          rcases h with (h | ⟨ad, h, hh⟩) | h
          · omega
          · have := (ho3.base ad h).1
            omega
          · omega
      case done =>
        rintro D M V hD1 hD2 hM hDV ⟨L, hL, hLl, hi, ⟨a', q', h1, h2, h3⟩, h4, h5, h6⟩ hK
        have HLl := Lib.hid hLl
        have HL := Lib.hid hL
        clear hLl hL
        go_wp2_with fail
        have ec : (c : Int) + 1 = ((c + 1 : Nat) : Int) := by omega
        rw [ec]
        rw [List.take_of_length_le (Nat.le_refl _), ← HPS.out] at HL
        have eL := HL.out
        subst eL
        have hDn : ∀ E ∈ Ds, E ≠ D := fun E hE => by have := (HD3.out E hE).2.1; omega
        refine ⟨⟨c + 1, D :: Ds, _, _, _, _, _, _, _, _, _, _, _, _, _, _, _, _, _, _, _, _, _, rfl, by omega, List.nodup_cons.2 ⟨fun h => hDn D h rfl, hnd⟩, ?_, ⟨a', q', h1, h2, ?_⟩, h6⟩, ?_⟩
        · intro E hE
          rcases List.mem_cons.1 hE with rfl | hE
          · exact ⟨hK, by omega, by omega⟩
          · have h7 := HD3.out E hE
            exact ⟨h5 E hE, h7.2.2.1, h7.2.2.2⟩
        · intro ad had
          rcases h3 ad had with ⟨ad0, h10, h11⟩ | h10
          · have h12 := HA.out ad0 h10
            have h13 := HBa.out ad0 h10
            refine ⟨fun h => ?_, by omega⟩
            rcases List.mem_cons.1 h with h | h
            · omega
            · exact h12.1 (h11 ▸ h)
          · refine ⟨fun h => ?_, by omega⟩
            rcases List.mem_cons.1 h with h | h
            · omega
            · have := (HD3.out _ h).2.1
              omega
        · show 3 - (((c + 1 : Nat) : Int)).toNat < 3 - ((c : Int)).toNat
          omega
      case stop => exact fun _ _ _ _ _ h => h.elim
    · have hcE : c = 3 := by omega
      subst hcE
      have d1 : decide ((3 : Int) < 3) = false := decF (by omega)
      have y0 := hB.cell 0 _ rfl
      have e3 : preX X 3 = wholeX X := by unfold preX; simp
      rw [e3] at hB hO y0
      go_wp2_with fail
      have hwl := wholeX_len X
      refine (kvbytes_any W a (wholeX X) q hO.rd (by omega) (fun c hc => chErr_short (HG.out.wok c hc))).mono ?_
      rintro e W2 ⟨a2, q2, rfl, hO2, hx2⟩
      have hDN := Lib.hid hDs
      clear y0 hDs hA hB hO
      go_wp2_with fail
      have hd2 : ∀ D ∈ Ds, W2.heap[D]? = some (.deferred (some [])) ∧ w.heap.size ≤ D ∧ D < W.heap.size := fun D hD => by
        obtain ⟨h1, h2, h3⟩ := hDN.out D hD
        have hl := (Array.getElem?_eq_some_iff.1 h1).1
        exact ⟨(hx2.block D hl (fun h => h)).trans h1, h2, hl⟩
      refine leaves_marks Ds W2 hnd (fun D hD => (hd2 D hD).1) (fun w' hw' => ?_)
      refine ⟨_, results_tmp rfl _ _ _, a2, q2, rfl, (hO2.ext hw' (fun ad had h => ?_)).mono (by omega), (hx.comp hx2).trans hw' (fun k hk h => ?_)⟩
      · have h7 := (hO2.base ad had).1
        have h8 := hd2 _ h
        omega
      · have h8 := hd2 _ h
        omega
end Go.Proofs.Ytpljcnjkdjblmaa
