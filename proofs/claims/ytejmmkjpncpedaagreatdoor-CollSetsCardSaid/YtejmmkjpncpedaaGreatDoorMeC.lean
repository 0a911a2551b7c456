/- coll.Members. -/
import Derived.Test.YtejmmkjpncpedaaGreatDoorMeB
import Derived.Test.YtejmmkjpncpedaaGreatDoorMeL
import Derived.Test.YtejmmkjpncpedaaGreatDoorScE
import Derived.Maps.OwnOps
import Derived.Maps.Ext
import Derived.Sort.KeysCollected
namespace Go.Proofs.YtejmmkjpncpedaaGreatDoor
open Go.RowKit Go.Esc
set_option linter.unusedVariables false
set_option linter.unusedSimpArgs false

theorem up_len (l : List UInt8) (a b : Int) : (up l a b).length ≤ l.length := by
  have t : ∀ m : List UInt8, (trim m).length ≤ m.length := fun m => Nat.le_trans (trimL_len _) (trimR_len m)
  unfold up
  split
  · exact Nat.zero_le _
  · split
    · exact Nat.le_refl _
    · split
      · split
        · rw [low_len]; exact Nat.le_refl _
        · exact Nat.le_trans (t _) (by rw [low_len]; exact Nat.le_refl _)
      · exact t _
theorem ofGrown {w w' : World} {b : Nat} (h : w.grownBy w' (some b)) : Ext (just b) w w' := ⟨h.os, h.tape, h.output, h.size, fun k hk hn => h.block k hk (fun e => hn (Option.some.inj e))⟩
theorem strKeys_facts {H : Type} {es : List (Lit × DataW H)} (hp : es.Pairwise (fun p q => p.1 ≠ q.1)) (hk : ∀ p ∈ es, ∃ x, p.1 = .string x) :
    (strKeys (.map es)).Nodup ∧ ∀ x, x ∈ strKeys (.map es) ↔ Maps.has (.map es) (.string x) = true := by
  constructor
  · show (es.map fun p => strOf p.1).Nodup
    refine List.pairwise_map.2 (hp.imp_of_mem fun {p q} hp' hq' hne e => hne ?_)
    obtain ⟨a, ha⟩ := hk p hp'
    obtain ⟨b, hb⟩ := hk q hq'
    rw [ha, hb] at e ⊢
    exact congrArg _ e
  · intro x
    rw [Maps.has_eq, List.any_eq_true]
    show x ∈ es.map (fun p => strOf p.1) ↔ _
    rw [List.mem_map]
    constructor
    · rintro ⟨p, hp', rfl⟩
      obtain ⟨a, ha⟩ := hk p hp'
      refine ⟨p, hp', ?_⟩
      rw [ha]
      exact WideAt.sameKey_self trivial
    · rintro ⟨p, hp', h⟩
      have := (WideAt.sameKey_iff (a := p.1) (b := .string x) trivial).1 h
      exact ⟨p, hp', by rw [this]; rfl⟩
theorem owns_facts {w : World} {b n : Nat} {D : DataW Unit} (h : w.ownsMap Tryz.prog 9 (plainElem Tryz.prog 3) b n D) :
    Maps.IsMap D ∧ Maps.size D ≤ n ∧ (strKeys D).Nodup ∧ ∀ x, x ∈ strKeys D ↔ Maps.has D (.string x) = true := by
  obtain ⟨es, hD, hap, _⟩ := h.canon (Maps.string_keyed Tryz.underlying9)
  obtain ⟨es2, hD2, hko⟩ := h.keysOf
  have hs : Maps.size D ≤ n := by
    obtain ⟨ar, clock, _, _, hsz, e⟩ := h
    rw [e, Maps.size_eq, length_sorted]
    simpa using hsz
  subst hD
  cases hD2
  exact ⟨⟨_, rfl⟩, hs, strKeys_facts (Maps.apart_of_rising hap) (fun p hp => by obtain ⟨v, hv⟩ := hko p hp; obtain ⟨x, _, hx, _⟩ := Maps.keyOf_str Tryz.underlying9 hv; exact ⟨x, hx⟩)⟩
theorem row_rd {w : World} {base : Nat} {e : TypeId} {v : Value} {n : Nat} {xs : List Value} (h : w.ownsRow base e 1 v n xs) : ∃ a c, v = .slice a n c ∧ Rd w a xs ∧ xs.length = n := by
  obtain ⟨hl, h | ⟨g, cap, cur, hv, _, hb, _, _, _, hx⟩⟩ := h
  · obtain ⟨hv, rfl⟩ := h
    have : xs = [] := List.eq_nil_of_length_eq_zero (by omega)
    subst this
    exact ⟨none, 0, hv, Rd.nil _ _, rfl⟩
  · refine ⟨_, cap, hv, ?_, by omega⟩
    have hr := (whole_rd hb).take (n * 1)
    rw [hx] at hr
    exact hr
theorem zeroI (w : World) : (zeroValue 3).run Tryz.prog w = .ok (.int .i64 0) w := by kernel_rfl
theorem keyS (t : List UInt8) (h : t.length ≤ maxLen) : keyOf Tryz.prog 9 (.string (str t)) = some (.string t) := WideMaps.keyOf_string_mk Tryz.underlying9 (by show t.toArray.size ≤ maxLen; simpa using h)
theorem wf_wrap (n : Int) : (Lit.int .i64 (RowKit.wrap64 n)).wf = true := wrap64_wf _

set_option maxHeartbeats 1000000 in
theorem sorted_any (w : World) (b n : Nat) (D : DataW Unit) (hown : w.ownsMap Tryz.prog 9 (plainElem Tryz.prog 3) b n D) (hn : n ≤ 1099511627776) :
    Calls Tryz.prog 26 #[.func (.func 63) #[] #[.pointer (some ⟨w.heap.size, 0, none⟩)]] (w.alloc (.cells #[.map (some b)] 69)) fun e w' => ∃ (a : Option Addr) (c : Nat) (ss : List (List UInt8)), e = .returned (.slice a (ss.mergeSort (fun x y => decide (x ≤ y))).length c) ∧ Rd w' a (ts (ss.mergeSort (fun x y => decide (x ≤ y)))) ∧ ss.Nodup ∧ (∀ x, x ∈ ss ↔ Maps.has D (.string x) = true) ∧ ss.length ≤ n ∧ Ext no w w' := by
  obtain ⟨_, hs, hnd, hmem⟩ := owns_facts hown
  refine (callsIn_wide.1 (Tryz.slices_Sorted_keys_26_27 b n D _ w hown (by unfold maxLen; omega) (by omega))).mono ?_
  rintro e w' ⟨v, ss, rfl, hp, hrow, _, hb⟩
  obtain ⟨a, c, rfl, hr, hln⟩ := row_rd hrow
  have hl2 : (ss.mergeSort (fun x y => decide (x ≤ y))).length = ss.length := List.length_mergeSort _
  refine ⟨a, c, ss, by rw [hl2], hr, hp.nodup_iff.2 hnd, fun x => by rw [hp.mem_iff]; exact hmem x, ?_, ?_⟩
  · rw [hp.length_eq]
    have : (strKeys D).length = Maps.size D := by
      obtain ⟨es, rfl⟩ := (owns_facts hown).1
      rw [Maps.size_eq]
      exact List.length_map _
    omega
  · exact (Ext.alloc no w _).comp (Ext.ofBelow hb (Nat.le_refl _))
theorem keys_any (w : World) (b : Nat) : Calls Tryz.prog 27 #[.map (some b)] w fun e w' => e = .returned (.func (.func 63) #[] #[.pointer (some ⟨w.heap.size, 0, none⟩)]) ∧ w.alloc (.cells #[.map (some b)] 69) = w' :=
  (callsIn_wide.1 (Tryz.maps_Keys_27 (some b) w)).mono fun e w' ⟨h1, h2⟩ => ⟨h1, h2.symm⟩

theorem memErr_snoc (l : List ElemR) (x : ElemR) (key : List UInt8) (ver : Int) (h : memErr l key ver = 0) : memErr (l ++ [x]) key ver = if x.key = key then upErr x.ver ver else 0 := by
  induction l with
  | nil =>
    show (if x.key = key ∧ upErr x.ver ver ≠ 0 then upErr x.ver ver else 0) = _
    by_cases h1 : x.key = key
    · by_cases h2 : upErr x.ver ver = 0
      · rw [if_neg (fun e => e.2 h2), if_pos h1, h2]
      · rw [if_pos ⟨h1, h2⟩, if_pos h1]
    · rw [if_neg (fun e => h1 e.1), if_neg h1]
  | cons y l ih =>
    rw [List.cons_append]
    unfold memErr at h ⊢
    split at h
    · rename_i hc; exact absurd h hc.2
    · rename_i hc; rw [if_neg hc]; exact ih h
theorem memErr_front (l m : List ElemR) (key : List UInt8) (ver : Int) (h : memErr l key ver ≠ 0) : memErr (l ++ m) key ver = memErr l key ver := by
  induction l with
  | nil => exact absurd rfl h
  | cons y l ih =>
    rw [List.cons_append]
    unfold memErr at h ⊢
    split
    · rfl
    · rename_i hc; rw [if_neg hc] at h; exact ih h
theorem memTexts_snoc (l : List ElemR) (x : ElemR) (key : List UInt8) (ver : Int) : memTexts (l ++ [x]) key ver = memTexts l key ver ++ (if x.key = key then [up x.text x.ver ver] else []) := by
  unfold memTexts
  rw [List.filter_append, List.map_append]
  congr 1
  by_cases h : x.key = key
  · rw [if_pos h]; simp [h]
  · rw [if_neg h]; simp [h]

def MemPost (w : World) (l : List ElemR) (key : List UInt8) (ver : Int) (E : Nat) (e : Ending) (w' : World) : Prop := ∃ (a : Option Addr) (c : Nat) (M : List (List UInt8)), e = .returned (.tuple #[.slice a M.length c, .int .i64 (E : Nat)]) ∧ Rd w' a (ts M) ∧ (E = 0 → isMem l key ver M) ∧ (E ≠ 0 → M = []) ∧ M.length ≤ l.length ∧ Ext no w w'

set_option maxRecDepth 100000 in
set_option maxHeartbeats 4000000 in
theorem members_any (w : World) (C : CollR) (h : Six) (key : List UInt8) (ver : Int) (hr : Rd w h.e (rows ElemR.cells C.elems)) (hl : C.elems.length ≤ 1099511627776) (hv : I64ok ver) (hall : ∀ x ∈ C.elems, x.text.length ≤ 1099511627776 ∧ I64ok x.ver) :
    Calls Tryz.prog 13 #[C.val h, .string (str key), .int .i64 ver] w (MemPost w C.elems key ver (memErr C.elems key ver)) := by
  obtain ⟨E, hE⟩ : ∃ E, E = memErr C.elems key ver := ⟨_, rfl⟩
  rw [← hE]
  have HE := Lib.hid hE
  clear hE
  have hmm := @run_makeMap Tryz.prog
  go_enter Tryz.func13, Tryz.ntmps13
  unfold CollR.val
  go_upto_region 1 with fail
  have hC := Blk.lit w #[.slice h.v C.v.length h.vc, .slice h.r C.regs.length h.rc, .slice h.e C.elems.length h.ec, .slice h.g C.gone.length h.gc, .slice h.s C.sums.length h.sc, .slice h.b C.binds.length h.bc] 31
  have hx1 := Ext.alloc no w (.cells #[.slice h.v C.v.length h.vc, .slice h.r C.regs.length h.rc, .slice h.e C.elems.length h.ec, .slice h.g C.gone.length h.gc, .slice h.s C.sums.length h.sc, .slice h.b C.binds.length h.bc] 31)
  generalize w.alloc (.cells #[.slice h.v C.v.length h.vc, .slice h.r C.regs.length h.rc, .slice h.e C.elems.length h.ec, .slice h.g C.gone.length h.gc, .slice h.s C.sums.length h.sc, .slice h.b C.binds.length h.bc] 31) = w1 at *
  go_upto_region 2 with fail
  have hown0 : (w1.alloc (.map #[] 0)).ownsMap Tryz.prog 9 (plainElem (H := Unit) Tryz.prog 3) w1.heap.size 0 (.map []) := World.ownsMap_made _ _ _ _
  have hxm := Ext.alloc no w1 (.map #[] 0)
  have hC2 := hC.ext (by simp) hxm (fun h => h)
  have hx2 := hx1.comp hxm
  have hmb1 := hx1.size
  obtain ⟨mb, hmb⟩ : ∃ mb, mb = w1.heap.size := ⟨_, rfl⟩
  rw [← hmb] at hown0 ⊢
  have hmbw : w.heap.size ≤ mb := by omega
  clear hC hx1 hxm hmb hmb1
  generalize w1.alloc (.map #[] 0) = w2 at *
  have c2 := hC2.cell 2 _ rfl
  have hr1 := hr.ext hx2 (fun _ _ h => h)
  go_wp2_with fail
  clear c2 hC2 hmm hr1
  go_loopw [17] (fun s17 wr => ∃ (i : Nat) (D : DataW Unit), s17 = .int .i64 i ∧ i ≤ C.elems.length ∧ wr.ownsMap Tryz.prog 9 (plainElem Tryz.prog 3) mb i D ∧ memErr (C.elems.take i) key ver = 0 ∧ (∀ t, Maps.has D (.string t) = true ↔ t ∈ memTexts (C.elems.take i) key ver) ∧ Ext no w wr) (fun s17 _ => C.elems.length - (intOf s17).toNat)
  case atStart => exact ⟨0, .map [], rfl, Nat.zero_le _, hown0, rfl, fun t => by rw [Maps.has_eq]; simp [memTexts], hx2⟩
  case round =>
    clear hown0 hx2
    obtain ⟨i, D, rfl, hi, hown, herr, hhas, hx⟩ := hrel
    have Herr := Lib.hid herr
    have Hhas := Lib.hid hhas
    clear herr hhas
    by_cases hin : i < C.elems.length
    · have d1 : decide (i < C.elems.length) = true := decT hin
      obtain ⟨x, hxm⟩ : ∃ x, C.elems[i]? = some x := ⟨_, List.getElem?_eq_getElem hin⟩
      have hxa := hall x (List.mem_of_getElem? hxm)
      have htk : C.elems.take (i + 1) = C.elems.take i ++ [x] := by rw [List.take_add_one, hxm]; rfl
      have hdr : C.elems = C.elems.take (i + 1) ++ C.elems.drop (i + 1) := (List.take_append_drop _ _).symm
      have herr2 := memErr_snoc (C.elems.take i) x key ver Herr.out
      have hmt := memTexts_snoc (C.elems.take i) x key ver
      rw [← htk] at herr2 hmt
      have Herr2 := Lib.hid herr2
      have Hmt := Lib.hid hmt
      have Hdr := Lib.hid hdr
      have hrr := hr.ext hx (fun _ _ h => h)
      obtain ⟨b, off, hsb, _⟩ := rows_shape kElem (by omega) hrr (by omega)
      rw [hsb] at hrr
      clear herr2 hmt hdr htk Herr
      have y0 : wr.cell? ⟨b, off + i * 6, none⟩ = some (.string (str x.key)) := rows_cell kElem hrr hxm 0 _ rfl
      have y1 : wr.cell? ⟨b, off + i * 6 + 1, none⟩ = some (.string (str x.text)) := rows_cell kElem hrr hxm 1 _ rfl
      have y2 : wr.cell? ⟨b, off + i * 6 + 2, none⟩ = some (.int .i64 x.ver) := rows_cell kElem hrr hxm 2 _ rfl
      have y3 : wr.cell? ⟨b, off + i * 6 + 3, none⟩ = some (.int .i64 x.dot.dev) := rows_cell kElem hrr hxm 3 _ rfl
      have y4 : wr.cell? ⟨b, off + i * 6 + 4, none⟩ = some (.int .i64 x.dot.ep) := rows_cell kElem hrr hxm 4 _ rfl
      have y5 : wr.cell? ⟨b, off + i * 6 + 5, none⟩ = some (.int .i64 x.dot.seq) := rows_cell kElem hrr hxm 5 _ rfl
      rw [hsb]
      go_upto_region 5 with fail
      have hX := Blk.lit wr #[.string (str x.key), .string (str x.text), .int .i64 x.ver, .int .i64 x.dot.dev, .int .i64 x.dot.ep, .int .i64 x.dot.seq] 68
      have hxb := Ext.alloc no wr (.cells #[.string (str x.key), .string (str x.text), .int .i64 x.ver, .int .i64 x.dot.dev, .int .i64 x.dot.ep, .int .i64 x.dot.seq] 68)
      have hown2 := hown.alloc (.cells #[.string (str x.key), .string (str x.text), .int .i64 x.ver, .int .i64 x.dot.dev, .int .i64 x.dot.ep, .int .i64 x.dot.seq] 68)
      have hx2 := hx.comp hxb
      have hs0 := hx.size
      clear hown hx hrr hxb hsb y0 y1 y2 y3 y4 y5
      generalize wr.alloc (.cells #[.string (str x.key), .string (str x.text), .int .i64 x.ver, .int .i64 x.dot.dev, .int .i64 x.dot.ep, .int .i64 x.dot.seq] 68) = w3 at *
      obtain ⟨gx, hgx⟩ : ∃ gx, gx = wr.heap.size := ⟨_, rfl⟩
      rw [← hgx] at hX ⊢
      have z0 := hX.cell 0 _ rfl
      have z1 := hX.cell 1 _ rfl
      have z2 := hX.cell 2 _ rfl
      clear hgx hxm
      by_cases hk : x.key = key
      · have t0 := beqStrT hk
        have Hk := Lib.hid hk
        clear hk
        go_wp2_with fail
        refine (up_any w3 x.text hxa.1 x.ver ver hxa.2 hv).mono ?_
        rintro e w4 ⟨rfl, hx4⟩
        have hown4 : w4.ownsMap Tryz.prog 9 (plainElem Tryz.prog 3) mb i D := hown2.kept (row := none) ⟨hx4.os, hx4.tape, hx4.output, hx4.size, fun k hk _ => hx4.block k hk (fun h => h)⟩ (by simp)
        have hxx := hx2.comp hx4
        have hul := up_len x.text x.ver ver
        have huz := hxa.1
        have Herr3 := Lib.hid (show memErr (C.elems.take (i + 1)) key ver = upErr x.ver ver by rw [Herr2.out, if_pos Hk.out])
        have Hmt3 := Lib.hid (show memTexts (C.elems.take (i + 1)) key ver = memTexts (C.elems.take i) key ver ++ [up x.text x.ver ver] by rw [Hmt.out, if_pos Hk.out])
        clear hown2 hx2 hx4 z0 z1 z2 hX hxa Herr2 Hmt Hk
        obtain ⟨T, hT⟩ : ∃ T, T = up x.text x.ver ver := ⟨_, rfl⟩
        rw [← hT] at Hmt3 hul ⊢
        obtain ⟨U, hU⟩ : ∃ U, U = upErr x.ver ver := ⟨_, rfl⟩
        rw [← hU] at Herr3 ⊢
        clear hT hU
        by_cases h0 : U = 0
        · have t1 : ((U : Int) != 0) = false := by rw [bne_eq_false_iff_eq]; omega
          have t1' : (U != 0) = false := by rw [bne_eq_false_iff_eq]; omega
          have Herr4 := Lib.hid (show memErr (C.elems.take (i + 1)) key ver = 0 by rw [Herr3.out, h0])
          clear h0 Herr3
          have hkey := keyS T (by unfold maxLen; omega)
          have him := (owns_facts hown4).1
          go_wp2_with (first
            | (at_lookup; refine wpList_lookup_own_int _ rfl _ _ 69 rfl 9 3 .i64 (Maps.string_keyed Tryz.underlying9) Tryz.underlying69 Tryz.underlying3 (zeroI _) mb i D rfl hown4 _ _ rfl hkey ?_; intro cv hat hwc)
            | (at_mapUpdate; refine wpList_mapUpdate_own _ rfl _ _ _ 69 rfl 9 3 (Maps.string_keyed Tryz.underlying9) Tryz.underlying69 _ mb i D rfl hown4 (by unfold maxLen; omega) _ _ _ rfl rfl hkey _ [] (plainElem_int Tryz.underlying3 (wf_wrap _)) ?_; intro w5 hown5 hgrow5))
          have hx5 : Ext no w w5 := hxx.trans (ofGrown hgrow5) (fun k hk e => by have e : k = mb := e; omega)
          have hhas5 : ∀ t, Maps.has (D.put (.string T) (.lit (.int .i64 (RowKit.wrap64 (cv + 1))))) (.string t) = true ↔ t ∈ memTexts (C.elems.take (i + 1)) key ver := by
            intro t
            rw [Hmt3.out, List.mem_append, List.mem_singleton, ← Hhas.out t]
            by_cases e : t = T
            · subst e
              exact ⟨fun _ => .inr rfl, fun _ => Maps.has_put_same him (show WideAt.IsKeyLit (.string t) from trivial) _⟩
            · rw [Maps.has_put_other (fun q => e (by injection q))]
              exact ⟨.inl, fun q => q.resolve_right e⟩
          go_wp2_with fail
          go_roundw
          case rel => exact ⟨i + 1, _, by go_num, by omega, hown5, Herr4.out, hhas5, hx5⟩
          case measure => simp [intOf]; omega
        · have t1 : ((U : Int) != 0) = true := by rw [bne_iff_ne]; omega
          have t1' : (U != 0) = true := by rw [bne_iff_ne]; omega
          have hEU := Lib.hid (show E = U by
            rw [HE.out]
            have q := Hdr.out
            rw [q, memErr_front _ _ _ _ (by rw [Herr3.out]; exact h0), Herr3.out])
          have H0 := Lib.hid h0
          clear h0
          go_wp2_with fail
          go_ret2
          exact ⟨none, 0, [], by rw [hEU.out]; rfl, Rd.nil _ _, fun e => absurd (hEU.out.symm.trans e) H0.out, fun _ => rfl, Nat.zero_le _, hxx⟩
      · have t0 := beqStrF hk
        have Herr4 := Lib.hid (show memErr (C.elems.take (i + 1)) key ver = 0 by rw [Herr2.out, if_neg hk])
        have Hhas4 := Lib.hid (show ∀ t, Maps.has D (.string t) = true ↔ t ∈ memTexts (C.elems.take (i + 1)) key ver by intro t; rw [Hmt.out, if_neg hk, List.append_nil]; exact Hhas.out t)
        clear hk
        go_wp2_with fail
        go_roundw
        case rel => exact ⟨i + 1, D, by go_num, by omega, hown2.mono (by omega), Herr4.out, Hhas4.out, hx2⟩
        case measure => simp [intOf]; omega
    · obtain rfl : i = C.elems.length := by omega
      have d1 : decide (C.elems.length < C.elems.length) = false := decF (by omega)
      have HE0 := Lib.hid (show E = 0 by rw [HE.out]; have := Herr.out; rw [List.take_length] at this; exact this)
      have Hhas2 := Lib.hid (show ∀ t, Maps.has D (.string t) = true ↔ t ∈ memTexts C.elems key ver by intro t; have := Hhas.out t; rw [List.take_length] at this; exact this)
      clear Hhas Herr HE
      go_wp2_with fail
      refine (keys_any wr mb).mono ?_
      rintro e w5 ⟨rfl, rfl⟩
      go_wp2_with fail
      refine (sorted_any wr mb _ D hown hl).mono ?_
      rintro e w6 ⟨a, c, ss, rfl, hrd, hnd, hmem, hle, hx6⟩
      have Hmem := Lib.hid hmem
      have hlm := @List.length_mergeSort _ (fun (x y : List UInt8) => decide (x ≤ y)) ss
      obtain ⟨M, hM⟩ : ∃ M, M = ss.mergeSort (fun x y => decide (x ≤ y)) := ⟨_, rfl⟩
      rw [← hM] at hrd hlm ⊢
      have HM := Lib.hid hM
      have Hlm := Lib.hid hlm
      clear hM hlm hmem
      go_wp2_with fail
      go_ret2
      exact ⟨a, c, M, by rw [HE0.out]; rfl, hrd, fun _ => ⟨ss, HM.out, hnd, fun t => by rw [Hmem.out, Hhas2.out]⟩, fun e => absurd HE0.out e, by have := Hlm.out; omega, hx.comp hx6⟩
end Go.Proofs.YtejmmkjpncpedaaGreatDoor
