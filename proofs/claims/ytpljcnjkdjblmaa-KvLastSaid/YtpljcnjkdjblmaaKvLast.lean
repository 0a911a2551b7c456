/- The walk of KvLast. -/
import Derived.Test.YtpljcnjkdjblmaaKvH
import Derived.Test.YtpljcnjkdjblmaaKvO
namespace Go.Esc
open Go.RowKit
/-- What the changes of one key leave. -/
structure LastOk (m : KvM) (want : List UInt8) (is : Bool) : Prop where
  eq : m = if is = true then [((1, [107]), want)] else []
  none : is = false → want = []
theorem LastOk.start : LastOk [] [] false := ⟨rfl, fun _ => rfl⟩
theorem LastOk.step {m : KvM} {want : List UInt8} {is : Bool} (h : LastOk m want is) (v : List UInt8) (gone : Bool) : LastOk (kvLay m ⟨1, [107], v, gone⟩) (if gone = true then [] else v) (!gone) := by
  have hm := h.eq
  refine ⟨?_, fun hg => by cases gone <;> simp at hg ⊢⟩
  rw [hm]
  cases is <;> cases gone <;> simp [kvLay, kvPut, kvHas, kvDel, ChangeR.at]
/-- A change of the law's. -/
structure One (c : ChangeR) : Prop where
  coll : c.coll = 1
  key : c.key = [107]
  val : ∃ z : UInt8, c.val = [z] ∧ 97 ≤ z.toNat ∧ z.toNat < 117
theorem One.err {c : ChangeR} (h : One c) : chErr c = 0 := by
  obtain ⟨h1, h2, z, h3, h4, h5⟩ := h
  unfold chErr
  rw [if_neg (by rw [h1]; omega), if_pos]
  refine ⟨?_, by rw [h2]; simp, ?_⟩
  · rw [h2]; decide
  · rw [textOk_iff]
    rw [h3]
    refine ⟨by simp, fun j b hb => ?_⟩
    cases j with
    | zero => simp at hb; subst hb; omega
    | succ j => simp at hb
theorem One.ok {c : ChangeR} (h : One c) : c.ok := by
  obtain ⟨h1, h2, z, h3, _⟩ := h
  exact ⟨by rw [h1]; exact ⟨by omega, by omega⟩, by rw [h2]; decide, by rw [h3]; unfold maxLen; simp⟩
theorem One.len {c : ChangeR} (h : One c) : (chEnc c).length ≤ 42 := by
  obtain ⟨h1, h2, z, h3, _⟩ := h
  unfold chEnc encT
  have e1 := (encI_length c.coll (by rw [h1]; exact ⟨by omega, by omega⟩)).1
  have e2 := (encI_length (if c.del = true then 1 else 0) (by split <;> exact ⟨by omega, by omega⟩)).1
  have e3 := (encI_length 1 ⟨by omega, by omega⟩).1
  rw [h2, h3]
  have e4 : (encI ((([107] : List UInt8).length : Nat) : Int)).length ≤ 10 := e3
  have e5 : (encI ((([z] : List UInt8).length : Nat) : Int)).length ≤ 10 := e3
  simp only [List.length_append]
  simp only [List.length_cons, List.length_nil] at *
  omega
theorem u8_at (n : Nat) (h : n < 256) : (UInt8.ofNat n).toNat = n := by simp; omega
theorem ones_len (l : List ChangeR) (h : ∀ c ∈ l, One c) : (l.flatMap chEnc).length ≤ 42 * l.length := by
  induction l with
  | nil => simp
  | cons c l ih =>
    have h1 := (h c (by simp)).len
    have h2 := ih (fun d hd => h d (List.mem_cons_of_mem _ hd))
    rw [List.flatMap_cons, List.length_append, List.length_cons]
    omega
end Go.Esc
namespace Go.Proofs.Ytpljcnjkdjblmaa
open Go.RowKit Go.Esc
set_option linter.unusedVariables false
set_option linter.unusedSimpArgs false

set_option maxRecDepth 100000 in
set_option maxHeartbeats 16000000 in
theorem kvlast_walk (w : World) (va : Option Addr) (vs : List Int) (vc : Nat) (da : Option Addr) (dl : List Bool) (dc : Nat) (hvr : Rd w va (is vs)) (hvok : ∀ n ∈ vs, I64ok n) (hvlc : vs.length ≤ vc) (hvcm : vc ≤ maxLen) (hdr : Rd w da (rows bcell dl)) (hdt : ∀ x ∈ dl, True) (hdlc : dl.length ≤ dc) (hdcm : dc ≤ maxLen) :
    Calls Try.prog 4 #[.slice va vs.length vc, .slice da dl.length dc] w fun e w' => e = .returned (.bool true) ∧ Ext no w w' := by
  have Hvok := Lib.hid hvok
  clear hvok hdt
  unfold maxLen at hvcm hdcm
  go_enter Try.func4, Try.ntmps4
  go_wp2_with fail
  refine (kvknown_any w).mono ?_
  rintro e w0 ⟨rfl, hx0⟩
  go_wp2_with fail
  refine (newdisk_any w0 10000 (by omega) (by omega) (fun _ => False)).mono ?_
  rintro e w1 ⟨g, rfl, hD, hg, hx1⟩
  have hW1 := hx0.comp hx1
  have hgw : w.heap.size ≤ g := by have := hx0.size; omega
  have hw1 := hW1.size
  clear hx0 hx1 hg
  go_wp2_with fail
  refine (kvfresh w1 g 10000 hD (by omega)).mono ?_
  rintro e w2 ⟨s, j, b, rfl, hSt, ⟨h1, h2, h3⟩, hx2⟩
  have hW2 : Ext no w w2 := hW1.trans hx2 (fun k hk e => by have e : k = g := e; omega)
  have HSt := Lib.hid hSt
  clear hx2 hD hSt
  obtain ⟨B, hB⟩ : ∃ B, B = w2.heap.size := ⟨_, rfl⟩
  have hB1 : B ≤ w2.heap.size := by omega
  have hB2 : w2.heap.size ≤ B := by omega
  clear hB
  go_wp2_with fail
  go_loopw [9, 10, 11, 12] (fun s9 s10 s11 s12 wr => ∃ (i : Nat) (l : List ChangeR) (a : Option Addr) (c : Nat) (wt : List UInt8) (ii : Bool), s9 = .slice a l.length c ∧ s10 = .string (str wt) ∧ s11 = .bool ii ∧ s12 = .int .i64 i ∧ i ≤ vs.length ∧ i ≤ 20 ∧ l.length = i ∧ LastOk (kvLays [] l) wt ii ∧ (∀ c ∈ l, One c) ∧ Own wr B a 4 l.length c (rows ChangeR.cells l) ∧ Ext no w2 wr) (fun _ _ _ s12 _ => vs.length - (intOf s12).toNat)
  case atStart => exact ⟨0, [], none, 0, [], false, rfl, rfl, rfl, rfl, Nat.zero_le _, Nat.zero_le _, rfl, LastOk.start, (fun c hc => by cases hc), Own.nil _ _ _, Ext.refl _ _⟩
  case round =>
    obtain ⟨i, l, a, c, wt, ii, rfl, rfl, rfl, rfl, hiv, hi20, hll, hlast, hone, hown, hx⟩ := hrel
    have hl20 : l.length ≤ 20 := by omega
    have hli1 : l.length ≤ i := by omega
    have hli2 : i ≤ l.length := by omega
    have Hlast := Lib.hid hlast
    have Hone := Lib.hid hone
    clear hll hlast hone
    have hW := hW2.comp hx
    have hwB := hx.size
    by_cases hin : i < vs.length ∧ i < 20
    · have d1 : decide (i < vs.length) = true := decT hin.1
      have d2 : decide ((i : Int) < 20) = true := decT (by omega)
      obtain ⟨x, hxm⟩ : ∃ x, vs[i]? = some x := ⟨_, List.getElem?_eq_getElem hin.1⟩
      have hxok := Hvok.out x (List.mem_of_getElem? hxm)
      have hvr1 := hvr.ext hW (fun _ _ h => h)
      obtain ⟨vb, vo, hva, _⟩ := hvr.shape (by simp [is]; omega)
      subst hva
      have y0 : wr.cell? ⟨vb, vo + i, none⟩ = some (.int .i64 x) := by
        have hlen : i < (is vs).length := by simp [is]; exact hin.1
        have q := hvr1.lookup i hlen
        have e : (is vs)[i] = .int .i64 x := by
          have e2 : (is vs)[i]? = some (.int .i64 x) := by simp [is, hxm, I64]
          exact (List.getElem?_eq_some_iff.1 e2).2
        rw [e] at q
        exact q
      have hin1 := hin.1
      have hin2 := hin.2
      clear hin hvr1 hxm
      go_wp2_with fail
      refine (kvwithin_any x 20 wr (by omega) (by omega) hxok).mono ?_
      rintro e _ ⟨rfl, rfl⟩
      have hq0 := Int.emod_nonneg x (show (20 : Int) ≠ 0 by omega)
      have hq1 := Int.emod_lt_of_pos x (show (0 : Int) < 20 by omega)
      generalize x % 20 = q at *
      obtain ⟨z, hz⟩ : ∃ z : UInt8, (z.toNat : Int) = 97 + q := ⟨UInt8.ofNat (97 + q.toNat), by rw [u8_at _ (by omega)]; omega⟩
      have hz1 : 97 ≤ z.toNat := by omega
      have hz2 : z.toNat < 117 := by omega
      have cv : ∀ (w : World), (convert 37 9 (.slice (some ⟨w.heap.size, 0, none⟩) 1 1)).run Try.prog (w.alloc (.cells #[.int .u8 (97 + q)] 5 (0, 0))) = .ok (.string (str [z])) (w.alloc (.cells #[.int .u8 (97 + q)] 5 (0, 0))) := fun w => by
        rw [← hz]
        exact convStr _ _ 1 1 [z] rfl (Rd.lit w _ _ _)
      have Hz := Lib.hid hz
      clear hz hxok
      go_upto_region 11 with fail
      have hxa := Ext.alloc no wr (.cells #[.int .u8 (97 + q)] 5)
      replace hx := hx.comp hxa
      replace hW := hW.comp hxa
      replace hown := hown.ext hxa (fun _ _ h => h)
      replace hwB := Nat.le_trans hwB hxa.size
      clear y0 cv hxa
      generalize wr.alloc (.cells #[.int .u8 (97 + q)] 5) = w4 at *
      by_cases hd : i < dl.length
      · have d3 : decide (i < dl.length) = true := decT hd
        obtain ⟨db, hdm⟩ : ∃ db, dl[i]? = some db := ⟨_, List.getElem?_eq_getElem hd⟩
        obtain ⟨ob, off, hda, _⟩ := rows_shape (f := bcell) (k := 1) (fun _ => rfl) (by omega) hdr (by omega)
        subst hda
        have hdr1 := hdr.ext hW (fun _ _ h => h)
        have y1 : w4.cell? ⟨ob, off + i, none⟩ = some (.bool db) := by
          have q := rows_cell (f := bcell) (k := 1) (fun _ => rfl) hdr1 hdm 0 _ rfl
          rw [Nat.mul_one] at q
          exact q
        clear hdr1 hdm
        cases db with
        | true =>
          have hX1 : Rd (w4.alloc (.cells #[.int .i64 1, .string { data := #[107] }, .string (str [z]), .bool true] 39)) (some ⟨w4.heap.size, 0, none⟩) (ChangeR.cells (⟨1, [107], [z], true⟩ : ChangeR)) := Rd.lit w4 #[.int .i64 1, .string { data := #[107] }, .string (str [z]), .bool true] _ _
          go_wp2_with (at_builtin; refine wpList_append TChange rfl rfl rfl (hown.alloc _) rfl hX1 rfl (one1Change _) ?c1 ?c2 ?c3 ?_)
          case c1 => unfold maxLen; omega
          case c2 => omega
          case c3 => first | omega | (simp; omega)
          intro a' c' w5 hp
          have ho : Own w5 B a' 4 (l.length + 1) c' (rows ChangeR.cells (l ++ [(⟨1, [107], [z], true⟩ : ChangeR)])) := by have q := hp.own; rw [rows_append, rows_one]; exact q
          have hx5 : Ext no w2 w5 := (hx.comp (Ext.alloc no w4 (.cells #[.int .i64 1, .string { data := #[107] }, .string (str [z]), .bool true] 39))).trans hp.ext (fun k hk => by rintro ⟨ad, h, hh⟩; have := (hown.base ad h).1; omega)
          have Hl := Lib.hid (show LastOk (kvLays [] (l ++ [(⟨1, [107], [z], true⟩ : ChangeR)])) (if true = true then [] else [z]) (!true) by rw [kvLays_append]; exact Hlast.out.step [z] true)
          have Ho := Lib.hid (show ∀ c ∈ l ++ [(⟨1, [107], [z], true⟩ : ChangeR)], One c from fun c hc => by
            rcases List.mem_append.1 hc with hc | hc
            · exact Hone.out c hc
            · rw [List.mem_singleton] at hc; rw [hc]; exact ⟨rfl, rfl, z, rfl, hz1, hz2⟩)
          clear hp hX1 hown hx hW
          go_wp2_with fail
          go_roundw
          case rel => exact ⟨i + 1, l ++ [(⟨1, [107], [z], true⟩ : ChangeR)], a', c', _, _, by rw [List.length_append]; rfl, rfl, rfl, by go_num, by omega, by omega, by rw [List.length_append]; simp; omega, Hl.out, Ho.out, by rw [List.length_append]; exact ho, hx5⟩
          case measure => simp [intOf]; omega
        | false =>
          have hX1 : Rd (w4.alloc (.cells #[.int .i64 1, .string { data := #[107] }, .string (str [z]), .bool false] 39)) (some ⟨w4.heap.size, 0, none⟩) (ChangeR.cells (⟨1, [107], [z], false⟩ : ChangeR)) := Rd.lit w4 #[.int .i64 1, .string { data := #[107] }, .string (str [z]), .bool false] _ _
          go_wp2_with (at_builtin; refine wpList_append TChange rfl rfl rfl (hown.alloc _) rfl hX1 rfl (one1Change _) ?c1 ?c2 ?c3 ?_)
          case c1 => unfold maxLen; omega
          case c2 => omega
          case c3 => first | omega | (simp; omega)
          intro a' c' w5 hp
          have ho : Own w5 B a' 4 (l.length + 1) c' (rows ChangeR.cells (l ++ [(⟨1, [107], [z], false⟩ : ChangeR)])) := by have q := hp.own; rw [rows_append, rows_one]; exact q
          have hx5 : Ext no w2 w5 := (hx.comp (Ext.alloc no w4 (.cells #[.int .i64 1, .string { data := #[107] }, .string (str [z]), .bool false] 39))).trans hp.ext (fun k hk => by rintro ⟨ad, h, hh⟩; have := (hown.base ad h).1; omega)
          have Hl := Lib.hid (show LastOk (kvLays [] (l ++ [(⟨1, [107], [z], false⟩ : ChangeR)])) (if false = true then [] else [z]) (!false) by rw [kvLays_append]; exact Hlast.out.step [z] false)
          have Ho := Lib.hid (show ∀ c ∈ l ++ [(⟨1, [107], [z], false⟩ : ChangeR)], One c from fun c hc => by
            rcases List.mem_append.1 hc with hc | hc
            · exact Hone.out c hc
            · rw [List.mem_singleton] at hc; rw [hc]; exact ⟨rfl, rfl, z, rfl, hz1, hz2⟩)
          clear hp hX1 hown hx hW
          go_wp2_with fail
          go_roundw
          case rel => exact ⟨i + 1, l ++ [(⟨1, [107], [z], false⟩ : ChangeR)], a', c', _, _, by rw [List.length_append]; rfl, rfl, rfl, by go_num, by omega, by omega, by rw [List.length_append]; simp; omega, Hl.out, Ho.out, by rw [List.length_append]; exact ho, hx5⟩
          case measure => simp [intOf]; omega
      · have d3 : decide (i < dl.length) = false := decF hd
        have hX1 : Rd (w4.alloc (.cells #[.int .i64 1, .string { data := #[107] }, .string (str [z]), .bool false] 39)) (some ⟨w4.heap.size, 0, none⟩) (ChangeR.cells (⟨1, [107], [z], false⟩ : ChangeR)) := Rd.lit w4 #[.int .i64 1, .string { data := #[107] }, .string (str [z]), .bool false] _ _
        go_wp2_with (at_builtin; refine wpList_append TChange rfl rfl rfl (hown.alloc _) rfl hX1 rfl (one1Change _) ?c1 ?c2 ?c3 ?_)
        case c1 => unfold maxLen; omega
        case c2 => omega
        case c3 => first | omega | (simp; omega)
        intro a' c' w5 hp
        have ho : Own w5 B a' 4 (l.length + 1) c' (rows ChangeR.cells (l ++ [(⟨1, [107], [z], false⟩ : ChangeR)])) := by have q := hp.own; rw [rows_append, rows_one]; exact q
        have hx5 : Ext no w2 w5 := (hx.comp (Ext.alloc no w4 (.cells #[.int .i64 1, .string { data := #[107] }, .string (str [z]), .bool false] 39))).trans hp.ext (fun k hk => by rintro ⟨ad, h, hh⟩; have := (hown.base ad h).1; omega)
        have Hl := Lib.hid (show LastOk (kvLays [] (l ++ [(⟨1, [107], [z], false⟩ : ChangeR)])) (if false = true then [] else [z]) (!false) by rw [kvLays_append]; exact Hlast.out.step [z] false)
        have Ho := Lib.hid (show ∀ c ∈ l ++ [(⟨1, [107], [z], false⟩ : ChangeR)], One c from fun c hc => by
          rcases List.mem_append.1 hc with hc | hc
          · exact Hone.out c hc
          · rw [List.mem_singleton] at hc; rw [hc]; exact ⟨rfl, rfl, z, rfl, hz1, hz2⟩)
        clear hp hX1 hown hx hW
        go_wp2_with fail
        go_roundw
        case rel => exact ⟨i + 1, l ++ [(⟨1, [107], [z], false⟩ : ChangeR)], a', c', _, _, by rw [List.length_append]; rfl, rfl, rfl, by go_num, by omega, by omega, by rw [List.length_append]; simp; omega, Hl.out, Ho.out, by rw [List.length_append]; exact ho, hx5⟩
        case measure => simp [intOf]; omega
    · by_cases hin1 : i < vs.length
      · have d1 : decide (i < vs.length) = true := decT hin1
        have d2 : decide ((i : Int) < 20) = false := decF (by omega)
        cases ii with
        | true =>
          have hm : kvLays [] l = [((1, [107]), wt)] := Hlast.out.eq
          have herr : kvErr [] l = 0 := by
            unfold kvErr
            rw [if_neg (by omega), if_neg (by rw [(firstErr_zero l).2 (fun c hc => (Hone.out c hc).err)]; simp), hm, if_neg (by simp)]
          have hjk : (DS.new 10000).jadd (kvEnc l) = (((DS.new 10000).jadd (kvEnc l)).1, 0) := by
            have hk := ((Well.new 10000).jadd (kvEnc l) (by
              have e1 := (encI_length l.length ⟨by omega, by omega⟩).1
              have e2 := ones_len l Hone.out
              unfold kvEnc
              simp only [List.length_append, List.length_nil, Nat.zero_add]
              omega)).1
            rw [← hk]
          have hSt := HSt.out.no hx
          have Hm := Lib.hid hm
          have Herr := Lib.hid herr
          clear hm herr
          go_wp2_with fail
          refine (kvapply_any wr g s j b 0 (DS.new 10000) [] hSt ((Well.new 10000).ok (by simp) (by omega) (by omega)) (by simp [DS.new]) (by omega) (by simp) a l c hown.rd (fun c hc => (Hone.out c hc).ok) hown.nc hown.cm (fun _ _ => by rw [hjk])).mono ?_
          rintro e w5 ⟨rfl, b', hSt5, hb', hx5⟩
          have hW5 : Ext no w w5 := hW.trans hx5 (fun k hk e => by rcases e with e | e | e <;> omega)
          have hbM : bM [] l = [((1, [107]), wt)] := by unfold bM; rw [if_pos Herr.out, Hm.out]
          rw [Herr.out]
          have hmp : MapIn w5 b' [((1, [107]), wt)] := by rw [← hbM]; exact hSt5.mp
          have hbk := hSt5.blk
          clear hSt5 hSt hx5 hbM hjk hown hx hW
          go_wp2_with fail
          refine (kvget_any w5 s j b' _ 1 [107] hbk hmp ⟨⟨by omega, by omega⟩, by unfold maxLen; simp⟩).mono ?_
          rintro e _ ⟨rfl, rfl⟩
          go_wp2_with fail
          refine (kvget_any w5 s j b' _ 0 [107] hbk hmp ⟨⟨by omega, by omega⟩, by unfold maxLen; simp⟩).mono ?_
          rintro e _ ⟨rfl, rfl⟩
          have g1 : (kvGet [((1, [107]), wt)] (1, [107])).getD [] = wt := by simp [kvGet]
          have g2 : kvHas [((1, [107]), wt)] (1, [107]) = true := by simp [kvHas]
          have g3 : kvHas [((1, [107]), wt)] (0, [107]) = false := by simp [kvHas]
          have bq : ((str wt).toList == (str wt).toList) = true := beqStrT rfl
          rw [g1, g2, g3]
          clear g1 g2 g3
          go_wp2_with fail
          refine (kvlen_any w5 s j b' _ hbk hmp (by simp)).mono ?_
          rintro e _ ⟨rfl, rfl⟩
          go_wp2_with fail
          go_ret
          exact ⟨rfl, hW5⟩
        | false =>
          have hm : kvLays [] l = [] := Hlast.out.eq
          have hwt : wt = [] := Hlast.out.none rfl
          subst hwt
          have herr : kvErr [] l = 0 := by
            unfold kvErr
            rw [if_neg (by omega), if_neg (by rw [(firstErr_zero l).2 (fun c hc => (Hone.out c hc).err)]; simp), hm, if_neg (by simp)]
          have hjk : (DS.new 10000).jadd (kvEnc l) = (((DS.new 10000).jadd (kvEnc l)).1, 0) := by
            have hk := ((Well.new 10000).jadd (kvEnc l) (by
              have e1 := (encI_length l.length ⟨by omega, by omega⟩).1
              have e2 := ones_len l Hone.out
              unfold kvEnc
              simp only [List.length_append, List.length_nil, Nat.zero_add]
              omega)).1
            rw [← hk]
          have hSt := HSt.out.no hx
          have Hm := Lib.hid hm
          have Herr := Lib.hid herr
          clear hm herr
          go_wp2_with fail
          refine (kvapply_any wr g s j b 0 (DS.new 10000) [] hSt ((Well.new 10000).ok (by simp) (by omega) (by omega)) (by simp [DS.new]) (by omega) (by simp) a l c hown.rd (fun c hc => (Hone.out c hc).ok) hown.nc hown.cm (fun _ _ => by rw [hjk])).mono ?_
          rintro e w5 ⟨rfl, b', hSt5, hb', hx5⟩
          have hW5 : Ext no w w5 := hW.trans hx5 (fun k hk e => by rcases e with e | e | e <;> omega)
          have hbM : bM [] l = [] := by unfold bM; rw [if_pos Herr.out, Hm.out]
          rw [Herr.out]
          have hmp : MapIn w5 b' [] := by rw [← hbM]; exact hSt5.mp
          have hbk := hSt5.blk
          clear hSt5 hSt hx5 hbM hjk hown hx hW
          go_wp2_with fail
          refine (kvget_any w5 s j b' _ 1 [107] hbk hmp ⟨⟨by omega, by omega⟩, by unfold maxLen; simp⟩).mono ?_
          rintro e _ ⟨rfl, rfl⟩
          go_wp2_with fail
          refine (kvget_any w5 s j b' _ 0 [107] hbk hmp ⟨⟨by omega, by omega⟩, by unfold maxLen; simp⟩).mono ?_
          rintro e _ ⟨rfl, rfl⟩
          have g1 : (kvGet [] (1, [107])).getD [] = [] := rfl
          have g2 : kvHas [] (1, [107]) = false := rfl
          have g3 : kvHas [] (0, [107]) = false := rfl
          have bq : ((str []).toList == (str []).toList) = true := beqStrT rfl
          rw [g1, g2, g3]
          clear g1 g2 g3
          go_wp2_with fail
          refine (kvlen_any w5 s j b' _ hbk hmp (by simp)).mono ?_
          rintro e _ ⟨rfl, rfl⟩
          go_wp2_with fail
          go_ret
          exact ⟨rfl, hW5⟩
      · have d1 : decide (i < vs.length) = false := decF hin1
        cases ii with
        | true =>
          have hm : kvLays [] l = [((1, [107]), wt)] := Hlast.out.eq
          have herr : kvErr [] l = 0 := by
            unfold kvErr
            rw [if_neg (by omega), if_neg (by rw [(firstErr_zero l).2 (fun c hc => (Hone.out c hc).err)]; simp), hm, if_neg (by simp)]
          have hjk : (DS.new 10000).jadd (kvEnc l) = (((DS.new 10000).jadd (kvEnc l)).1, 0) := by
            have hk := ((Well.new 10000).jadd (kvEnc l) (by
              have e1 := (encI_length l.length ⟨by omega, by omega⟩).1
              have e2 := ones_len l Hone.out
              unfold kvEnc
              simp only [List.length_append, List.length_nil, Nat.zero_add]
              omega)).1
            rw [← hk]
          have hSt := HSt.out.no hx
          have Hm := Lib.hid hm
          have Herr := Lib.hid herr
          clear hm herr
          go_wp2_with fail
          refine (kvapply_any wr g s j b 0 (DS.new 10000) [] hSt ((Well.new 10000).ok (by simp) (by omega) (by omega)) (by simp [DS.new]) (by omega) (by simp) a l c hown.rd (fun c hc => (Hone.out c hc).ok) hown.nc hown.cm (fun _ _ => by rw [hjk])).mono ?_
          rintro e w5 ⟨rfl, b', hSt5, hb', hx5⟩
          have hW5 : Ext no w w5 := hW.trans hx5 (fun k hk e => by rcases e with e | e | e <;> omega)
          have hbM : bM [] l = [((1, [107]), wt)] := by unfold bM; rw [if_pos Herr.out, Hm.out]
          rw [Herr.out]
          have hmp : MapIn w5 b' [((1, [107]), wt)] := by rw [← hbM]; exact hSt5.mp
          have hbk := hSt5.blk
          clear hSt5 hSt hx5 hbM hjk hown hx hW
          go_wp2_with fail
          refine (kvget_any w5 s j b' _ 1 [107] hbk hmp ⟨⟨by omega, by omega⟩, by unfold maxLen; simp⟩).mono ?_
          rintro e _ ⟨rfl, rfl⟩
          go_wp2_with fail
          refine (kvget_any w5 s j b' _ 0 [107] hbk hmp ⟨⟨by omega, by omega⟩, by unfold maxLen; simp⟩).mono ?_
          rintro e _ ⟨rfl, rfl⟩
          have g1 : (kvGet [((1, [107]), wt)] (1, [107])).getD [] = wt := by simp [kvGet]
          have g2 : kvHas [((1, [107]), wt)] (1, [107]) = true := by simp [kvHas]
          have g3 : kvHas [((1, [107]), wt)] (0, [107]) = false := by simp [kvHas]
          have bq : ((str wt).toList == (str wt).toList) = true := beqStrT rfl
          rw [g1, g2, g3]
          clear g1 g2 g3
          go_wp2_with fail
          refine (kvlen_any w5 s j b' _ hbk hmp (by simp)).mono ?_
          rintro e _ ⟨rfl, rfl⟩
          go_wp2_with fail
          go_ret
          exact ⟨rfl, hW5⟩
        | false =>
          have hm : kvLays [] l = [] := Hlast.out.eq
          have hwt : wt = [] := Hlast.out.none rfl
          subst hwt
          have herr : kvErr [] l = 0 := by
            unfold kvErr
            rw [if_neg (by omega), if_neg (by rw [(firstErr_zero l).2 (fun c hc => (Hone.out c hc).err)]; simp), hm, if_neg (by simp)]
          have hjk : (DS.new 10000).jadd (kvEnc l) = (((DS.new 10000).jadd (kvEnc l)).1, 0) := by
            have hk := ((Well.new 10000).jadd (kvEnc l) (by
              have e1 := (encI_length l.length ⟨by omega, by omega⟩).1
              have e2 := ones_len l Hone.out
              unfold kvEnc
              simp only [List.length_append, List.length_nil, Nat.zero_add]
              omega)).1
            rw [← hk]
          have hSt := HSt.out.no hx
          have Hm := Lib.hid hm
          have Herr := Lib.hid herr
          clear hm herr
          go_wp2_with fail
          refine (kvapply_any wr g s j b 0 (DS.new 10000) [] hSt ((Well.new 10000).ok (by simp) (by omega) (by omega)) (by simp [DS.new]) (by omega) (by simp) a l c hown.rd (fun c hc => (Hone.out c hc).ok) hown.nc hown.cm (fun _ _ => by rw [hjk])).mono ?_
          rintro e w5 ⟨rfl, b', hSt5, hb', hx5⟩
          have hW5 : Ext no w w5 := hW.trans hx5 (fun k hk e => by rcases e with e | e | e <;> omega)
          have hbM : bM [] l = [] := by unfold bM; rw [if_pos Herr.out, Hm.out]
          rw [Herr.out]
          have hmp : MapIn w5 b' [] := by rw [← hbM]; exact hSt5.mp
          have hbk := hSt5.blk
          clear hSt5 hSt hx5 hbM hjk hown hx hW
          go_wp2_with fail
          refine (kvget_any w5 s j b' _ 1 [107] hbk hmp ⟨⟨by omega, by omega⟩, by unfold maxLen; simp⟩).mono ?_
          rintro e _ ⟨rfl, rfl⟩
          go_wp2_with fail
          refine (kvget_any w5 s j b' _ 0 [107] hbk hmp ⟨⟨by omega, by omega⟩, by unfold maxLen; simp⟩).mono ?_
          rintro e _ ⟨rfl, rfl⟩
          have g1 : (kvGet [] (1, [107])).getD [] = [] := rfl
          have g2 : kvHas [] (1, [107]) = false := rfl
          have g3 : kvHas [] (0, [107]) = false := rfl
          have bq : ((str []).toList == (str []).toList) = true := beqStrT rfl
          rw [g1, g2, g3]
          clear g1 g2 g3
          go_wp2_with fail
          refine (kvlen_any w5 s j b' _ hbk hmp (by simp)).mono ?_
          rintro e _ ⟨rfl, rfl⟩
          go_wp2_with fail
          go_ret
          exact ⟨rfl, hW5⟩
end Go.Proofs.Ytpljcnjkdjblmaa
