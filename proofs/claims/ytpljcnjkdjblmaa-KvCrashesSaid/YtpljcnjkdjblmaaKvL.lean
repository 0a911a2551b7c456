/- The walks of kv's lay and Open. -/
import Derived.Test.YtpljcnjkdjblmaaKvTw
import Derived.Test.YtpljcnjkdjblmaaKE
namespace Go.Esc
open Go.RowKit
set_option linter.unusedVariables false
/-- What a change's bytes are read as. -/
def dI (d : Bool) : Int := if d = true then 1 else 0
theorem dI_ok (d : Bool) : I64ok (dI d) := by unfold dI; split <;> exact ⟨by omega, by omega⟩
theorem chEnc_eq (c : ChangeR) (r : List UInt8) : chEnc c ++ r = encI c.coll ++ (encI (dI c.del) ++ (encT c.key ++ (encT c.val ++ r))) := by unfold chEnc dI; simp
theorem folds_tells (Ls : List (List ChangeR)) : ∀ (m : KvM) (X : KvX), Tells m X → (∀ l ∈ Ls, l.length ≤ 20 ∧ ∀ c ∈ l, chErr c = 0) → Tells (Ls.foldl kvLays m) (Ls.foldl KvX.puts X) := by
  induction Ls with
  | nil => intro m X h _; exact h
  | cons l Ls ih => intro m X h hl; exact ih _ _ (h.puts l (fun c hc => chErr_coll ((hl l (by simp)).2 c hc))) (fun k hk => hl k (List.mem_cons_of_mem _ hk))
theorem folds_good (Ls : List (List ChangeR)) : ∀ X : KvX, X.Good → (∀ l ∈ Ls, l.length ≤ 20 ∧ ∀ c ∈ l, chErr c = 0) → (Ls.foldl KvX.puts X).Good := by
  induction Ls with
  | nil => intro X h _; exact h
  | cons l Ls ih => intro X h hl; exact ih _ (h.puts l (hl l (by simp)).2) (fun k hk => hl k (List.mem_cons_of_mem _ hk))
end Go.Esc
namespace Go.Proofs.Ytpljcnjkdjblmaa
open Go.RowKit Go.Esc
set_option linter.unusedVariables false
set_option linter.unusedSimpArgs false
theorem knew_any (w : World) (a : Option Addr) (c : Nat) (l : List UInt8) (hrd : Rd w a (bs l)) (hl : l.length ≤ 70368744177664) :
    Calls Try.prog 46 #[.slice a l.length c] w fun e w' => ∃ g d, e = .returned (.pointer (some ⟨g, 0, none⟩)) ∧ Rdr w' g d l 0 ∧ w.heap.size ≤ g ∧ (∀ i, d = some i → w.heap.size ≤ i) ∧ Ext no w w' := by
  go_enter Try.func46, Try.ntmps46
  go_wp2_with fail
  refine (clone_any w a c l hrd hl).mono ?_
  rintro e w1 ⟨a2, c2, rfl, hown, hx⟩
  have h1 := hown.nc
  have h2 := hown.cm
  have h3 := hown.rd
  have h4 := hown.base
  clear hown
  go_wp2_with fail
  go_ret
  have hxa : Ext no w1 (w1.alloc (.cells #[.slice a2 l.length c2, .int .i64 0] 116)) := Ext.alloc _ _ _
  refine ⟨w1.heap.size, a2.map Addr.block, rfl, ⟨⟨a2, c2, by simp, h1, h2, h3.ext hxa (fun _ _ h => h), fun ad ha => by rw [ha]; rfl⟩, ?_, by simp, fun j => by simp⟩, hx.size, ?_, hx.comp hxa⟩
  · intro i hi
    cases a2 with
    | none => cases hi
    | some ad =>
      have := (h4 ad rfl).2.1
      simp at hi ⊢
      omega
  · intro i hi
    cases a2 with
    | none => cases hi
    | some ad =>
      have := (h4 ad rfl).1
      simp at hi
      omega


set_option maxRecDepth 100000 in
set_option maxHeartbeats 8000000 in
theorem kvlay_any (w : World) (s j b : Nat) (m : KvM) (hS : Blk w s [.pointer (some ⟨j, 0, none⟩), .map (some b)]) (hm : MapIn w b m) (hsb : s ≠ b) (l : List ChangeR) (hl : l.length ≤ 1000) (hc : ∀ c ∈ l, chErr c = 0) (ba : Option Addr) (bc : Nat) (hbd : Rd w ba (bs (kvEnc l))) :
    Calls Try.prog 32 #[.pointer (some ⟨s, 0, none⟩), .slice ba (kvEnc l).length bc] w fun e w' => e = .returned (.tuple #[]) ∧ MapIn w' b (kvLays m l) ∧ Ext (just b) w w' := by
  have hel := batch_len l hc hl
  have Hc := Lib.hid hc
  have hblt := hm.lt
  have hslt := hS.lt (by simp)
  have e1 : rInt ⟨kvEnc l, 0⟩ = ((l.length : Int), ⟨l.flatMap chEnc, 0⟩) := by
    unfold kvEnc
    exact rInt_enc l.length ⟨by omega, by omega⟩ _
  have E1 := Lib.hid e1
  generalize kvEnc l = t at *
  clear hc e1
  go_enter Try.func32, Try.ntmps32
  go_wp2_with fail
  refine (knew_any w ba bc t hbd (by omega)).mono ?_
  rintro e w1 ⟨g, d, rfl, hR, hg, hd, hx1⟩
  have hS1 := hS.ext (by simp) hx1 (fun h => h)
  have hm1 := hm.no hx1
  go_wp2_with fail
  refine (rdInt_any w1 g ⟨t, 0⟩ hR).mono ?_
  rw [E1.out]
  rintro e w2 ⟨rfl, hR2, hx2⟩
  simp only at hR2
  have hS2 := hS1.ext (by simp) hx2 (fun e => by have e : s = g := e; omega)
  have hm2 := hm1.ext hx2 (fun e => by have e : b = g := e; omega)
  have hW2 : Ext (just b) w w2 := (hx1.trans hx2 (fun k hk e => by have e : k = g := e; omega)).mono (fun _ _ h => h.elim)
  have hwl := hW2.size
  have hgl := hR2.lt
  clear hR hS1 hm1 hx1 hx2 hS hm hbd
  go_wp2_with fail
  go_loopw [10] (fun s10 wr => ∃ i : Nat, s10 = .int .i64 i ∧ i ≤ l.length ∧ Rdr wr g d ((l.drop i).flatMap chEnc) 0 ∧ MapIn wr b (kvLays m (l.take i)) ∧ Blk wr s [.pointer (some ⟨j, 0, none⟩), .map (some b)] ∧ Ext (just b) w wr) (fun s10 _ => l.length - (intOf s10).toNat)
  case atStart => exact ⟨0, rfl, Nat.zero_le _, by rw [List.drop_zero]; exact hR2, by rw [List.take_zero]; exact hm2, hS2, hW2⟩
  case round =>
    clear hR2 hm2 hS2 hW2
    obtain ⟨i, rfl, hil, hR, hm, hS, hW⟩ := hrel
    by_cases hin : i < l.length
    · have d1 : decide (i < l.length) = true := decT hin
      obtain ⟨c, hcm⟩ : ∃ c, l[i]? = some c := ⟨_, List.getElem?_eq_getElem hin⟩
      have hce := Hc.out c (List.mem_of_getElem? hcm)
      have hcs := chErr_short hce
      have hck := chErr_ok hce
      have hdr : l.drop i = c :: l.drop (i + 1) := by rw [List.drop_eq_getElem_cons hin, (List.getElem?_eq_some_iff.1 hcm).2]
      have htk : kvLays m (l.take (i + 1)) = kvLay (kvLays m (l.take i)) c := by
        rw [List.take_succ_eq_append_getElem hin, (List.getElem?_eq_some_iff.1 hcm).2, kvLays_append]
        rfl
      have HTK := Lib.hid htk
      have hkl := ((textOk_iff _).1 hck.2.1).1
      have hvl := ((textOk_iff _).1 hck.2.2.2).1
      rw [hdr, List.flatMap_cons, chEnc_eq] at hR
      obtain ⟨rest, hrest⟩ : ∃ rest, rest = (l.drop (i + 1)).flatMap chEnc := ⟨_, rfl⟩
      rw [← hrest] at hR
      have HRest := Lib.hid hrest
      have a1 := rInt_enc c.coll hcs.1 (Go.Esc.encI (dI c.del) ++ (encT c.key ++ (encT c.val ++ rest)))
      have a2 := rInt_enc (dI c.del) (dI_ok _) (encT c.key ++ (encT c.val ++ rest))
      have a3 := rText_enc c.key (by omega) (Go.Esc.encT c.val ++ rest)
      have a4 := rText_enc c.val (by omega) rest
      have A1 := Lib.hid a1
      have A2 := Lib.hid a2
      have A3 := Lib.hid a3
      have A4 := Lib.hid a4
      have hcok : c.ok := ⟨hcs.1, by unfold maxLen; omega, by unfold maxLen; omega⟩
      clear hdr htk hcm hrest a1 a2 a3 a4 hck hce hcs
      have hgw := hR.lt
      have hbw := hm.lt
      have hwr := hW.size
      go_wp2_with fail
      refine (rdInt_any wr g ⟨_, 0⟩ hR).mono ?_
      rw [A1.out]
      rintro e w3 ⟨rfl, hR3, hx3⟩
      simp only at hR3
      go_wp2_with fail
      refine (rdInt_any w3 g ⟨_, 0⟩ hR3).mono ?_
      rw [A2.out]
      rintro e w4 ⟨rfl, hR4, hx4⟩
      simp only at hR4
      have hd1 : (dI c.del == 1) = c.del := by unfold dI; cases c.del <;> rfl
      go_upto_region 4 with fail
      have hds : ∀ i, d = some i → i < w4.heap.size := fun i hi => (hR4.sep i hi).2
      have hg4 : g < w4.heap.size := hR4.lt
      have hx34 := hx3.comp hx4
      have hw34 := hx34.size
      have hX := Blk.lit w4 #[.int .i64 c.coll, .string { data := #[] }, .string { data := #[] }, .bool c.del] 39
      have hxa := Ext.alloc no w4 (.cells #[.int .i64 c.coll, .string { data := #[] }, .string { data := #[] }, .bool c.del] 39)
      have hza : (w4.alloc (.cells #[.int .i64 c.coll, .string { data := #[] }, .string { data := #[] }, .bool c.del] 39)).heap.size = w4.heap.size + 1 := by simp
      generalize w4.alloc (.cells #[.int .i64 c.coll, .string { data := #[] }, .string { data := #[] }, .bool c.del] 39) = w5 at *
      obtain ⟨gx, hgx⟩ : ∃ gx, gx = w4.heap.size := ⟨_, rfl⟩
      rw [← hgx] at hX ⊢
      have hgx1 : wr.heap.size ≤ gx := by omega
      have hgx2 : gx < w5.heap.size := by omega
      have hnd : ∀ i, d = some i → i ≠ gx := fun i hi e => by have := hds i hi; omega
      have hggx : g < gx := by omega
      have hR5 := hR4.no hxa
      have hx35 := hx34.comp (hxa.mono (S' := just g) (fun _ _ h => h.elim))
      clear hgx hds hg4 hxa hza hx3 hx4 hx34 hR3 hR4 hR hd1
      go_wp2_with fail
      refine (rdText_any w5 g ⟨_, 0⟩ hR5).mono ?_
      rw [A3.out]
      rintro e w6 ⟨rfl, hR6, hx6⟩
      simp only at hR6
      go_wp2_with fail
      refine (rdText_any w6 g ⟨_, 0⟩ hR6).mono ?_
      rw [A4.out]
      rintro e w7 ⟨rfl, hR7, hx7⟩
      simp only at hR7
      have hX7 := hX.ext (by simp) (hx6.comp hx7) (fun e => by have e : gx = g := e; omega)
      have hx37 := (hx35.comp hx6).comp hx7
      have y1 := hX7.cell 1 _ rfl
      have f1 := hX7.fr 1
      have y2 := hX7.cell 2 _ rfl
      have f2 := hX7.fr 2
      have hw57 := (hx6.comp hx7).size
      clear hx6 hx7 hx35 hR5 hR6 hX
      go_upto_region 5 with fail
      have hX8 := (hX7.set 1 (.string (str c.key)) (by simp)).set 2 (.string (str c.val)) (by simp)
      have hxs1 : Ext (just gx) w7 (w7.setCell ⟨gx, 1, none⟩ (.string (str c.key))) := Ext.setCell (S := just gx) w7 ⟨gx, 1, none⟩ _ rfl
      have hxs2 : Ext (just gx) (w7.setCell ⟨gx, 1, none⟩ (.string (str c.key))) ((w7.setCell ⟨gx, 1, none⟩ (.string (str c.key))).setCell ⟨gx, 2, none⟩ (.string (str c.val))) := Ext.setCell (S := just gx) _ ⟨gx, 2, none⟩ _ rfl
      have hxs := hxs1.comp hxs2
      clear hxs1 hxs2 y1 y2 f1 f2
      generalize (w7.setCell ⟨gx, 1, none⟩ (.string (str c.key))).setCell ⟨gx, 2, none⟩ (.string (str c.val)) = w8 at *
      have hR8 := hR7.ext hxs (fun e => by have e : g = gx := e; omega) (fun i hi e => hnd i hi e)
      have hS8 := (hS.ext (by simp) hx37 (fun e => by have e : s = g := e; omega)).ext (by simp) hxs (fun e => by have e : s = gx := e; omega)
      have hm8 := (hm.ext hx37 (fun e => by have e : b = g := e; omega)).ext hxs (fun e => by have e : b = gx := e; omega)
      have hW8 : Ext (just b) w w8 := (hW.trans hx37 (fun k hk e => by have e : k = g := e; omega)).trans hxs (fun k hk e => by have e : k = gx := e; omega)
      have hX9 : Blk w8 gx [.int .i64 c.coll, .string (str c.key), .string (str c.val), .bool c.del] := hX8
      have hgw8 : g < w8.heap.size := hR8.lt
      clear hX7 hX8 hxs hR7 hx37 hS hm hW
      refine wp_region_F [0, 4] (looks [(0, fun z => Blk z gx [.int .i64 c.coll, .string (str c.key), .string (str c.val), .bool c.del]), (4, fun z => Blk z s [.pointer (some ⟨j, 0, none⟩), .map (some b)])]) (by kernel_rfl) ?_
      have hxd := Ext.drew no w8
      generalize w8.drew = wd at *
      have hT0 : ∀ k, looks [(0, fun z => Blk z gx [.int .i64 c.coll, .string (str c.key), .string (str c.val), .bool c.del]), (4, fun z => Blk z s [.pointer (some ⟨j, 0, none⟩), .map (some b)])] k (wd) := looks_all ⟨hX9.ext (by simp) hxd (fun h => h), hS8.ext (by simp) hxd (fun h => h), trivial⟩
      refine wpF_look 0 (v := c.v) rfl rfl (by kernel_rfl) (by kernel_rfl) (by kernel_rfl) (by kernel_rfl) (fun _ _ _ h => h) hT0 (by rfl) (fun w hS => by have hS : Blk w gx [.int .i64 c.coll, .string (str c.key), .string (str c.val), .bool c.del] := hS; have q0 := hS.cell 0 _ rfl; have q1 := hS.cell 1 _ rfl; have q2 := hS.cell 2 _ rfl; have q3 := hS.cell 3 _ rfl; unfold ChangeR.v; go_simp) ?_
      simp only [Act.put, List.setIfInBounds_toArray, List.set_cons_zero, List.set_cons_succ]
      refine wpF_take 1 (v := ?_) rfl (by kernel_rfl) (by kernel_rfl) (by kernel_rfl) (fun _ _ _ h => h) hT0 (by rfl) ?_ ?_
      rotate_left
      · (intro wq; go_simp; try with_reducible rfl)
      simp only [Act.put, List.setIfInBounds_toArray, List.set_cons_zero, List.set_cons_succ]
      refine wpF_take 2 (v := ?_) rfl (by kernel_rfl) (by kernel_rfl) (by kernel_rfl) (fun _ _ _ h => h) hT0 (by rfl) ?_ ?_
      rotate_left
      · (intro wq; go_simp; try with_reducible rfl)
      simp only [Act.put, List.setIfInBounds_toArray, List.set_cons_zero, List.set_cons_succ]
      refine wpF_take 3 (v := ?_) rfl (by kernel_rfl) (by kernel_rfl) (by kernel_rfl) (fun _ _ _ h => h) hT0 (by rfl) ?_ ?_
      rotate_left
      · (intro wq; go_simp; try with_reducible rfl)
      simp only [Act.put, List.setIfInBounds_toArray, List.set_cons_zero, List.set_cons_succ]
      refine wpF_look 4 (v := .map (some b)) rfl rfl (by kernel_rfl) (by kernel_rfl) (by kernel_rfl) (by kernel_rfl) (fun _ _ _ h => h) hT0 (by rfl) (fun w hS => by have hS : Blk w s [.pointer (some ⟨j, 0, none⟩), .map (some b)] := hS; have q := hS.cell 1 _ rfl; go_simp) ?_
      simp only [Act.put, List.setIfInBounds_toArray, List.set_cons_zero, List.set_cons_succ]
      refine wpF_exec 5 rfl (by kernel_rfl) (by rfl) ?_
      intro K hK
      go_simp
      refine (kvput_any wd b (kvLays m (l.take i)) c (hm8.no hxd) hcok).mono ?_
      rw [← HTK.out]
      rintro e w9 ⟨rfl, hm9, hx9⟩
      have hT1 : ∀ k, looks [(0, fun z => True), (4, fun z => True)] k (w9) := looks_all ⟨trivial, trivial, trivial⟩
      refine hK _ _ (looks [(0, fun z => True), (4, fun z => True)]) ⟨.inr (.inl (by kernel_rfl)), .inr (.inl (by kernel_rfl)), trivial⟩ hT1 ?_
      clear hK K
      try simp only [Act.put, List.setIfInBounds_toArray, List.set_cons_zero, List.set_cons_succ]
      refine wpF_done (by kernel_rfl) ?_ _
      have hR9 := (hR8.no hxd).ext hx9 (fun e => by have e : g = b := e; omega) (fun i hi e => by have e : i = b := e; have := hd i hi; omega)
      have hS9 := (hS8.ext (by simp) hxd (fun h => h)).ext (by simp) hx9 (fun e => hsb e)
      have hW9 : Ext (just b) w w9 := (hW8.comp (hxd.mono (fun _ _ h => h.elim))).comp hx9
      rw [HRest.out] at hR9
      clear hR8 hS8 hW8 hm8 hxd hx9 hX9
      go_wp2_with fail
      go_roundw
      case rel => exact ⟨i + 1, by go_num, by omega, hR9, hm9, hS9, hW9⟩
      case measure => simp [intOf]; omega
    · have hiE : i = l.length := by omega
      subst hiE
      have d1 : decide (l.length < l.length) = false := decF (by omega)
      rw [List.take_of_length_le (Nat.le_refl _)] at hm
      go_wp2_with fail
      go_end0
      exact ⟨rfl, hm, hW⟩
end Go.Proofs.Ytpljcnjkdjblmaa
