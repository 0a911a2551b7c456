/- kv's write and Apply, whatever room there is, and wherever the power goes. -/
import Derived.Test.YtpljcnjkdjblmaaKvW
namespace Go.Esc
open Go.RowKit
/-- What a batch is answered, and what it leaves of disk and number. -/
def apR (ds : DS) (n : Nat) (m : KvM) (l : List ChangeR) (W : List UInt8) : DS × Nat × Nat := if kvErr m l ≠ 0 then (ds, n, kvErr m l) else if l = [] then (ds, n, 0) else wrAll ds n W (kvEnc l)
def apM (ds : DS) (n : Nat) (m : KvM) (l : List ChangeR) (W : List UInt8) : KvM := if (apR ds n m l W).2.2 = 0 then kvLays m l else m
theorem DS.kjadd {s : DS} (h : s.ok) (hd : s.done ≤ 999990) (b : List UInt8) : (s.jadd b).1.ok ∧ (s.jadd b).1.done ≤ s.done + 2 := by
  obtain ⟨h1, h2⟩ := DS.ok_append h (by omega) (frame b)
  unfold DS.jadd
  split
  · exact ⟨h1, by omega⟩
  · obtain ⟨h3, h4⟩ := DS.ok_sync h1 (by omega)
    exact ⟨h3, by omega⟩
theorem DS.kjsnap {s : DS} (h : s.ok) (hd : s.done ≤ 999990) (b : List UInt8) : (s.jsnap b).1.ok ∧ (s.jsnap b).1.done ≤ s.done + 1 := DS.ok_swap h (by omega) _
/-- A store; the disk's arrays are none of M's blocks either. -/
structure StM (w : World) (g s j b : Nat) (ds : DS) (n : Nat) (m : KvM) (M : Nat → Prop) : Prop where
  st : St w g s j b ds n m
  dkM : Dk w g ds (fun i => (i = s ∨ i = j ∨ i = b) ∨ M i)
  mlt : ∀ k, M k → k < w.heap.size
theorem StM.no {w w' : World} {g s j b n : Nat} {ds : DS} {m : KvM} {M : Nat → Prop} (h : StM w g s j b ds n m M) (hx : Ext no w w') : StM w' g s j b ds n m M :=
  ⟨h.st.no hx, h.dkM.no hx, fun k hk => Nat.lt_of_lt_of_le (h.mlt k hk) hx.size⟩
/-- M's blocks may be written. -/
theorem StM.ext {w w' : World} {g s j b n : Nat} {ds : DS} {m : KvM} {M S : Nat → Prop} (h : StM w g s j b ds n m M) (hx : Ext S w w') (hS : ∀ k, S k → M k) (hM : ¬ M g ∧ ¬ M s ∧ ¬ M j ∧ ¬ M b) : StM w' g s j b ds n m M := by
  have hD := h.dkM.ext hx (fun e => hM.1 (hS g e)) (fun k _ e => .inr (hS k e))
  exact ⟨⟨h.st.blk.ext (by simp) hx (fun e => hM.2.1 (hS s e)), hD.fewer (fun k _ e => .inl e), h.st.jn.ext (by simp) hx (fun e => hM.2.2.1 (hS j e)), h.st.mp.ext hx (fun e => hM.2.2.2 (hS b e)), h.st.sg, h.st.jg, h.st.bg, h.st.sj, h.st.sb, h.st.jb⟩, hD, fun k hk => Nat.lt_of_lt_of_le (h.mlt k hk) hx.size⟩
/-- A block that comes to be is none of the disk's. -/
theorem StM.grow {w w' : World} {g s j b n : Nat} {ds : DS} {m : KvM} {M : Nat → Prop} (h : StM w g s j b ds n m M) (hx : Ext Esc.no w w') (y : Nat) (h1 : w.heap.size ≤ y) (h2 : y < w'.heap.size) : StM w' g s j b ds n m (fun i => M i ∨ i = y) :=
  ⟨h.st.no hx, (h.dkM.fewer (fun k hk e => by rcases e with e | e | e; exact .inl e; exact .inr e; omega)).no hx, fun k hk => by rcases hk with e | e; exact Nat.lt_of_lt_of_le (h.mlt k e) hx.size; omega⟩
theorem StM.less {w : World} {g s j b n : Nat} {ds : DS} {m : KvM} {M M' : Nat → Prop} (h : StM w g s j b ds n m M) (hM : ∀ k, M' k → M k) : StM w g s j b ds n m M' :=
  ⟨h.st, h.dkM.fewer (fun k _ e => by rcases e with e | e; exact .inl e; exact .inr (hM k e)), fun k hk => h.mlt k (hM k hk)⟩
theorem St.M {w : World} {g s j b n : Nat} {ds : DS} {m : KvM} (h : St w g s j b ds n m) : StM w g s j b ds n m (fun _ => False) :=
  ⟨h, h.dk.fewer (fun k _ e => by rcases e with e | e; exact e; exact e.elim), fun k hk => hk.elim⟩
theorem tally_le (k n : Nat) : tally k (n + 1) n ≤ n + 1 := by unfold tally; split <;> omega
/-- Behind the first try. -/
structure Tried (ds : DS) (n : Nat) (W t : List UInt8) (dA : DS) (nA e : Nat) : Prop where
  ok : dA.ok
  done : dA.done ≤ ds.done + 2
  few : nA ≤ n + 1
  again : e = 17 → nA ≠ 0 → wrAll ds n W t = wrSnap dA nA W t
  fine : e ≠ 17 ∨ nA = 0 → wrAll ds n W t = (dA, nA, e)
theorem Tried.first {ds : DS} {n : Nat} {W t : List UInt8} (h : n < 16) (hok : ds.ok) (hd : ds.done ≤ 999980) : Tried ds n W t (ds.jadd t).1 (tally (ds.jadd t).2 (n + 1) n) (ds.jadd t).2 := by
  obtain ⟨h1, h2⟩ := DS.kjadd hok (by omega) t
  refine ⟨h1, h2, tally_le _ _, fun he hn => ?_, fun he => ?_⟩
  · have e : tally (ds.jadd t).2 (n + 1) n = n := tally_err (by omega) _ _
    rw [e] at hn ⊢
    unfold wrAll
    rw [if_pos h, if_neg (by rintro (q | q); exact q he; exact hn q)]
  · unfold wrAll
    rw [if_pos h]
    by_cases h17 : (ds.jadd t).2 = 17
    · have e : tally (ds.jadd t).2 (n + 1) n = n := tally_err (by omega) _ _
      rw [e] at he
      rw [if_pos (.inr (by rcases he with q | q; exact absurd h17 q; exact q))]
    · rw [if_pos (.inl h17)]
theorem Tried.none {ds : DS} {n : Nat} {W t : List UInt8} (h : ¬ n < 16) (hok : ds.ok) : Tried ds n W t ds n 17 := by
  refine ⟨hok, by omega, by omega, fun he hn => ?_, fun he => ?_⟩
  · unfold wrAll
    rw [if_neg h]
  · rcases he with q | q <;> omega
end Go.Esc
namespace Go.Proofs.Ytpljcnjkdjblmaa
open Go.RowKit Go.Esc
set_option linter.unusedVariables false
set_option linter.unusedSimpArgs false

set_option maxRecDepth 100000 in
set_option maxHeartbeats 8000000 in
theorem kvwrite_all (w : World) (g s j b n : Nat) (ds : DS) (m : KvM) (X : KvX) (N : Nat → Prop) (hS : Blk w s [.pointer (some ⟨j, 0, none⟩), .map (some b)]) (hm : MapIn w b m) (hD : Dk w g ds N) (hJ : Blk w j (jcells g n)) (hsg : s ≠ g) (hsj : s ≠ j) (hbg : b ≠ g) (hbj : b ≠ j) (hjg : j ≠ g) (hNj : N j) (hN : ∀ k, N k → k < w.heap.size)
    (ht : Tells m X) (hg : X.Good) (hml : m.length ≤ 300) (hok : ds.ok) (hd : ds.done ≤ 999980) (hn : n ≤ 1000000) (ba : Option Addr) (bc : Nat) (t : List UInt8) (hbd : Rd w ba (bs t)) (hbl : t.length ≤ 4194304) (hba : ∀ ad, ba = some ad → ad.block ≠ g ∧ ad.block ≠ j) :
    Calls Try.prog 36 #[.pointer (some ⟨s, 0, none⟩), .slice ba t.length bc] w fun e w' => e = .returned (.int .i64 (wrAll ds n (kvEnc (wholeX X)) t).2.2) ∧ Dk w' g (wrAll ds n (kvEnc (wholeX X)) t).1 N ∧ Blk w' j (jcells g (wrAll ds n (kvEnc (wholeX X)) t).2.1) ∧ Ext (either g j) w w' := by
  have c0 := hS.cell 0 _ rfl
  have HT := Lib.hid ht
  have HG := Lib.hid hg
  have HBA := Lib.hid hba
  have hXl := ht.len
  have hwl := wholeX_len X
  have hel : (kvEnc (wholeX X)).length ≤ 4194304 := by
    have := batch_len (wholeX X) hg.wok (by omega)
    omega
  obtain ⟨Wb, hWb⟩ : ∃ Wb, Wb = kvEnc (wholeX X) := ⟨_, rfl⟩
  have HW := Lib.hid hWb
  rw [← hWb]
  have hel : Wb.length ≤ 4194304 := by rw [hWb]; exact hel
  clear hWb ht hg hba
  go_enter Try.func36, Try.ntmps36
  go_wp2_with fail
  refine (count_any w g j n hJ).mono ?_
  rintro e _ ⟨rfl, rfl⟩
  go_upto_if 12 with fail
  go_cut [5] (fun s5 wx => ∃ (dA : DS) (nA e : Nat), s5 = .int .i64 e ∧ Dk wx g dA N ∧ Blk wx j (jcells g nA) ∧ Tried ds n Wb t dA nA e ∧ Ext (either g j) w wx)
  case first =>
    by_cases h16 : n < 16
    · have d1 : decide ((n : Int) < 16) = true := decT (by omega)
      have HTR := Lib.hid (Tried.first (W := Wb) (t := t) h16 hok hd)
      go_wp2_with fail
      refine (jadd_any w g j n ds N hD hJ hjg hNj hN hok (by omega) (by omega) ba bc t hbd hbl).mono ?_
      rintro e w1 ⟨rfl, hD1, hJ1, hx1⟩
      generalize (ds.jadd t).2 = k at *
      generalize (ds.jadd t).1 = dA at *
      generalize tally k (n + 1) n = nA at *
      go_wp2_with fail
      go_meet
      exact ⟨dA, nA, k, rfl, hD1, hJ1, HTR.out, hx1⟩
    · have d1 : decide ((n : Int) < 16) = false := decF (by omega)
      have HTR := Lib.hid (Tried.none (W := Wb) (t := t) h16 hok)
      go_wp2_with fail
      go_meet
      exact ⟨ds, n, 17, rfl, hD, hJ, HTR.out, Ext.refl _ _⟩
  case rest =>
  obtain ⟨dA, nA, k, rfl, hD1, hJ1, hTr, hx1⟩ := hcut
  have hS1 := hS.ext (by simp) hx1 (fun h => by rcases h with q | q; exact hsg q; exact hsj q)
  have hm1 := hm.ext hx1 (fun h => by rcases h with q | q; exact hbg q; exact hbj q)
  have hb1 := hbd.ext hx1 (fun ad ha h => by have q := HBA.out ad ha; rcases h with r | r; exact q.1 r; exact q.2 r)
  have hfew := hTr.few
  have hdn := hTr.done
  have hokA := hTr.ok
  have HTr := Lib.hid hTr
  have hN1 : ∀ k, N k → k < wc.heap.size := fun k hk => Nat.lt_of_lt_of_le (hN k hk) hx1.size
  have c1 := hS1.cell 0 _ rfl
  clear hTr hD hJ hS hm hbd c0
  by_cases hk : k = 17
  case neg =>
    have d2 : ((k : Int) != 17) = true := by rw [bne_iff_ne]; omega
    have HR := Lib.hid (HTr.out.fine (.inl hk))
    clear hk
    go_wp2_with fail
    go_ret
    rw [HR.out]
    exact ⟨rfl, hD1, hJ1, hx1⟩
  subst hk
  by_cases h0 : nA = 0
  case pos =>
    have HR := Lib.hid (HTr.out.fine (.inr h0))
    have d3 : ((nA : Int) == 0) = true := by rw [beq_iff_eq]; omega
    clear h0
    go_wp2_with fail
    refine (count_any wc g j nA hJ1).mono ?_
    rintro e _ ⟨rfl, rfl⟩
    go_wp2_with fail
    go_ret
    rw [HR.out]
    exact ⟨rfl, hD1, hJ1, hx1⟩
  have d3 : ((nA : Int) == 0) = false := by rw [beq_eq_false_iff_ne]; omega
  have HR := Lib.hid (HTr.out.again rfl h0)
  clear h0 HTr
  go_wp2_with fail
  refine (count_any wc g j nA hJ1).mono ?_
  rintro e _ ⟨rfl, rfl⟩
  go_upto_region 6 with fail
  have hx1z := hx1.size
  refine wp_region_F [3] (looks [(3, fun z => Blk z s [.pointer (some ⟨j, 0, none⟩), .map (some b)])]) (by kernel_rfl) ?_
  have hT0 : ∀ k, looks [(3, fun z => Blk z s [.pointer (some ⟨j, 0, none⟩), .map (some b)])] k (wc.drew) := looks_all ⟨hS1.ext (by simp) (Ext.drew no wc) (fun h => h), trivial⟩
  refine wpF_take 0 (v := ?_) rfl (by kernel_rfl) (by kernel_rfl) (by kernel_rfl) (fun _ _ _ h => h) hT0 (by rfl) ?_ ?_
  rotate_left
  · (intro wq; go_simp; try with_reducible rfl)
  simp only [Act.put, List.setIfInBounds_toArray, List.set_cons_zero, List.set_cons_succ]
  refine wpF_take 1 (v := ?_) rfl (by kernel_rfl) (by kernel_rfl) (by kernel_rfl) (fun _ _ _ h => h) hT0 (by rfl) ?_ ?_
  rotate_left
  · (intro wq; go_simp; try with_reducible rfl)
  simp only [Act.put, List.setIfInBounds_toArray, List.set_cons_zero, List.set_cons_succ]
  refine wpF_take 2 (v := ?_) rfl (by kernel_rfl) (by kernel_rfl) (by kernel_rfl) (fun _ _ _ h => h) hT0 (by rfl) ?_ ?_
  rotate_left
  · (intro wq; go_simp; try with_reducible rfl)
  simp only [Act.put, List.setIfInBounds_toArray, List.set_cons_zero, List.set_cons_succ]
  refine wpF_look 3 (v := .pointer (some ⟨j, 0, none⟩)) rfl rfl (by kernel_rfl) (by kernel_rfl) (by kernel_rfl) (by kernel_rfl) (fun _ _ _ h => h) hT0 (by rfl) (fun w hS => by have hS : Blk w s [.pointer (some ⟨j, 0, none⟩), .map (some b)] := hS; have q := hS.cell 0 _ rfl; go_simp) ?_
  simp only [Act.put, List.setIfInBounds_toArray, List.set_cons_zero, List.set_cons_succ]
  refine wpF_take 4 (v := ?_) rfl (by kernel_rfl) (by kernel_rfl) (by kernel_rfl) (fun _ _ _ h => h) hT0 (by rfl) ?_ ?_
  rotate_left
  · (intro wq; go_simp; try with_reducible rfl)
  simp only [Act.put, List.setIfInBounds_toArray, List.set_cons_zero, List.set_cons_succ]
  refine wpF_exec 5 rfl (by kernel_rfl) (by rfl) ?_
  intro K hK
  go_simp
  refine (kvwhole_any wc.drew s j b m X (hS1.ext (by simp) (Ext.drew no wc) (fun h => h)) (hm1.no (Ext.drew no wc)) HT.out HG.out hml).mono ?_
  rw [← HW.out]
  rintro e v1 ⟨a1, q1, rfl, o1, x1⟩
  have hT1 : ∀ k, looks [(3, fun z => Blk z s [.pointer (some ⟨j, 0, none⟩), .map (some b)])] k (v1) := looks_all ⟨hS1.ext (by simp) ((Ext.drew no wc).comp x1) (fun h => h), trivial⟩
  refine hK _ _ (looks [(3, fun z => Blk z s [.pointer (some ⟨j, 0, none⟩), .map (some b)])]) ⟨.inr (.inr (fun x h => h)), trivial⟩ hT1 ?_
  clear hK K
  try simp only [Act.put, List.setIfInBounds_toArray, List.set_cons_zero, List.set_cons_succ]
  replace x1 := (Ext.drew no wc).comp x1
  refine wpF_exec 6 rfl (by kernel_rfl) (by rfl) ?_
  intro K hK
  go_simp
  refine (jsnap_any v1 g j nA dA N (hD1.no x1) (hJ1.ext (by simp [jcells]) x1 (fun h => h)) hjg hNj (fun k hk => Nat.lt_of_lt_of_le (hN1 k hk) x1.size) hokA a1 q1 Wb o1.rd hel).mono ?_
  rintro e v2 ⟨rfl, hD2, hJ2, x2⟩
  have hT2 : ∀ k, looks [(3, fun z => Blk z s [.pointer (some ⟨j, 0, none⟩), .map (some b)])] k (v2) := looks_all ⟨(hS1.ext (by simp) x1 (fun h => h)).ext (by simp) x2 (fun h => by rcases h with q | q; exact hsg q; exact hsj q), trivial⟩
  refine hK _ _ (looks [(3, fun z => Blk z s [.pointer (some ⟨j, 0, none⟩), .map (some b)])]) ⟨.inr (.inl (by kernel_rfl)), trivial⟩ hT2 ?_
  clear hK K
  try simp only [Act.put, List.setIfInBounds_toArray, List.set_cons_zero, List.set_cons_succ]
  refine wpF_take 7 (v := ?_) rfl (by kernel_rfl) (by kernel_rfl) (by kernel_rfl) (fun _ _ _ h => h) hT2 (by rfl) ?_ ?_
  rotate_left
  · (intro wq; go_simp; try with_reducible rfl)
  simp only [Act.put, List.setIfInBounds_toArray, List.set_cons_zero, List.set_cons_succ]
  refine wpF_done (by kernel_rfl) ?_ _
  clear o1 c1
  have hx2 : Ext (either g j) w v2 := (hx1.comp (x1.mono (fun _ _ h => h.elim))).comp x2
  have hS2 := (hS1.ext (by simp) x1 (fun h => h)).ext (by simp) x2 (fun h => by rcases h with q | q; exact hsg q; exact hsj q)
  have hb2 := (hb1.ext x1 (fun _ _ h => h)).ext x2 (fun ad ha h => by have q := HBA.out ad ha; rcases h with r | r; exact q.1 r; exact q.2 r)
  have hN2 : ∀ k, N k → k < v2.heap.size := fun k hk => Nat.lt_of_lt_of_le (hN1 k hk) (Nat.le_trans x1.size x2.size)
  obtain ⟨hok2, hdn2⟩ := DS.kjsnap hokA (by omega) Wb
  have HR2 := Lib.hid (show wrAll ds n Wb t = if (dA.jsnap Wb).2 ≠ 0 then ((dA.jsnap Wb).1, nA, (dA.jsnap Wb).2) else (((dA.jsnap Wb).1.jadd t).1, tally ((dA.jsnap Wb).1.jadd t).2 1 0, ((dA.jsnap Wb).1.jadd t).2) by rw [HR.out]; rfl)
  generalize (dA.jsnap Wb).2 = k at *
  generalize (dA.jsnap Wb).1 = dB at *
  clear hS1 hm1 hD1 hJ1 hb1 x1 x2 HR
  by_cases hk : k = 0
  case neg =>
    have d4 : ((k : Int) != 0) = true := by rw [bne_iff_ne]; omega
    have d4' : ((k : Int) == 0) = false := by rw [beq_eq_false_iff_ne]; omega
    have HR3 := Lib.hid (HR2.out.trans (if_pos hk))
    rw [tally_err hk] at hJ2
    clear hk HR2
    go_wp2_with fail
    go_ret
    rw [HR3.out]
    exact ⟨rfl, hD2, hJ2, hx2⟩
  subst hk
  have HR3 := Lib.hid (HR2.out.trans (if_neg (by simp)))
  rw [tally_ok] at hJ2
  have c2 := hS2.cell 0 _ rfl
  clear HR2
  go_wp2_with fail
  refine (jadd_any v2 g j 0 dB N hD2 hJ2 hjg hNj hN2 hok2 (by omega) (by omega) ba bc t hb2 hbl).mono ?_
  rintro e w4 ⟨rfl, hD4, hJ4, hx4⟩
  go_wp2_with fail
  go_ret
  rw [HR3.out]
  exact ⟨rfl, hD4, hJ4, hx2.comp hx4⟩

set_option maxRecDepth 100000 in
set_option maxHeartbeats 8000000 in
theorem kvapply_all (w : World) (g s j b n : Nat) (ds : DS) (m : KvM) (X : KvX) (M : Nat → Prop) (hM : StM w g s j b ds n m M) (ht : Tells m X) (hg : X.Good) (hok : ds.ok) (hd : ds.done ≤ 999980) (hn : n ≤ 1000000) (hml : m.length ≤ 300) (la : Option Addr) (l : List ChangeR) (lc : Nat) (hr : Rd w la (rows ChangeR.cells l)) (hlok : ∀ c ∈ l, c.ok) (hlc : l.length ≤ lc) (hcm : lc ≤ maxLen) :
    Calls Try.prog 14 #[.pointer (some ⟨s, 0, none⟩), .slice la l.length lc] w fun e w' => e = .returned (.int .i64 (apR ds n m l (kvEnc (wholeX X))).2.2) ∧ ∃ b', StM w' g s j b' (apR ds n m l (kvEnc (wholeX X))).1 (apR ds n m l (kvEnc (wholeX X))).2.1 (apM ds n m l (kvEnc (wholeX X))) M ∧ (b' = b ∨ w.heap.size ≤ b') ∧ Ext (three g s j) w w' := by
  have h := hM.st
  have HM := Lib.hid hM
  obtain ⟨l1, l2, l3, l4⟩ := h.low
  have c1 := h.blk.cell 1 _ rfl
  have hmp := h.mp
  have H := Lib.hid h
  have HT := Lib.hid ht
  have HG := Lib.hid hg
  have Hlok := Lib.hid hlok
  unfold maxLen at hcm
  obtain ⟨K, hK⟩ : ∃ K, K = kvErr m l := ⟨_, rfl⟩
  have HK := Lib.hid hK
  obtain ⟨AR, hAR⟩ : ∃ AR, AR = apR ds n m l (kvEnc (wholeX X)) := ⟨_, rfl⟩
  obtain ⟨AM, hAM⟩ : ∃ AM, AM = apM ds n m l (kvEnc (wholeX X)) := ⟨_, rfl⟩
  have HAR := Lib.hid hAR
  have HAM := Lib.hid hAM
  rw [← hAR, ← hAM]
  have hRK : K ≠ 0 ∨ l = [] → AR = (ds, n, K) ∧ AM = m := by
    intro hk
    have e : AR = (ds, n, K) := by
      rw [hAR, hK]
      unfold apR
      split
      · rfl
      · rename_i h0
        have h0 : kvErr m l = 0 := Classical.not_not.1 h0
        rw [if_pos (by rcases hk with q | q; exact absurd (hK.trans h0) q; exact q), h0]
    refine ⟨e, ?_⟩
    rw [hAM]
    unfold apM
    rw [← hAR, e]
    simp only
    split
    · rename_i h0
      rcases hk with q | q
      · exact absurd h0 q
      · rw [q]; rfl
    · rfl
  have HRK := Lib.hid hRK
  clear h hM ht hg hlok hK hAR hAM hRK
  have same : ∀ w', K ≠ 0 ∨ l = [] → Ext no w w' → ∃ b', StM w' g s j b' AR.1 AR.2.1 AM M ∧ (b' = b ∨ w.heap.size ≤ b') ∧ Ext (three g s j) w w' := by
    intro w' hk hx
    obtain ⟨e1, e2⟩ := HRK.out hk
    rw [e1, e2]
    exact ⟨b, HM.out.no hx, .inl rfl, hx.mono (fun _ _ h => h.elim)⟩
  have Hsame := Lib.hid same
  clear same
  go_enter Try.func14, Try.ntmps14
  by_cases h20 : 20 < l.length
  · have d1 : decide ((20 : Int) < (l.length : Int)) = true := decT (by omega)
    have HE := Lib.hid (show K = 4 by rw [HK.out]; unfold kvErr; rw [if_pos h20])
    go_wp2_with fail
    go_ret
    exact ⟨by rw [(HRK.out (.inl (by rw [HE.out]; simp))).1, HE.out]; rfl, Hsame.out w (.inl (by rw [HE.out]; simp)) (Ext.refl _ _)⟩
  have d1 : decide ((20 : Int) < (l.length : Int)) = false := decF (by omega)
  go_wp2_with fail
  refine (kvclone_any w b m hmp).mono ?_
  rintro e w1 ⟨rfl, hm1, hx1, hz1⟩
  obtain ⟨b', hb'⟩ : ∃ b', b' = w.heap.size := ⟨_, rfl⟩
  rw [← hb'] at hm1 ⊢
  have hb1 : w.heap.size ≤ b' := by omega
  have hb2 : b' < w1.heap.size := by omega
  clear hb' c1 hmp hz1
  go_wp2_with fail
  go_loopw [20] (fun s20 wr => ∃ i : Nat, s20 = .int .i64 i ∧ i ≤ l.length ∧ (∀ c ∈ l.take i, chErr c = 0) ∧ MapIn wr b' (kvLays m (l.take i)) ∧ Ext no w wr ∧ b' < wr.heap.size) (fun s20 _ => l.length - (intOf s20).toNat)
  case atStart => exact ⟨0, rfl, Nat.zero_le _, (fun c hc => by simp at hc), hm1, hx1, hb2⟩
  case round =>
    clear hm1 hx1 hb2
    obtain ⟨i, rfl, hil, hgo, hm1, hW, hb2⟩ := hrel
    have Hgo := Lib.hid hgo
    clear hgo
    by_cases hin : i < l.length
    · have d2 : decide (i < l.length) = true := decT hin
      obtain ⟨c, hcm'⟩ : ∃ c, l[i]? = some c := ⟨_, List.getElem?_eq_getElem hin⟩
      have hcok := Hlok.out c (List.mem_of_getElem? hcm')
      have hck := hcok.key
      have hcv := hcok.val
      have hfe := firstErr_at l i c hcm' Hgo.out
      have htk : l.take (i + 1) = l.take i ++ [c] := by rw [List.take_succ_eq_append_getElem hin, (List.getElem?_eq_some_iff.1 hcm').2]
      have HT := Lib.hid htk
      have hbad : chErr c ≠ 0 → K = chErr c := fun hne => by
        have := hfe hne
        rw [HK.out]
        unfold kvErr
        rw [if_neg h20, if_pos (by rw [this]; exact hne), this]
      have HB := Lib.hid hbad
      clear hfe htk hbad
      obtain ⟨ob, off, hsa, _⟩ := rows_shape kChange (by omega) hr (by omega)
      subst hsa
      have hrr := hr.ext hW (fun _ _ h => h)
      have y0 : wr.cell? ⟨ob, off + i * 4, none⟩ = some (.int .i64 c.coll) := rows_cell kChange hrr hcm' 0 _ rfl
      have y1 : wr.cell? ⟨ob, off + i * 4 + 1, none⟩ = some (.string (str c.key)) := rows_cell kChange hrr hcm' 1 _ rfl
      have y2 : wr.cell? ⟨ob, off + i * 4 + 2, none⟩ = some (.string (str c.val)) := rows_cell kChange hrr hcm' 2 _ rfl
      have y3 : wr.cell? ⟨ob, off + i * 4 + 3, none⟩ = some (.bool c.del) := rows_cell kChange hrr hcm' 3 _ rfl
      clear hrr hcm'
      go_upto_region 8 with fail
      have hX := Blk.lit wr #[.int .i64 c.coll, .string (str c.key), .string (str c.val), .bool c.del] 39
      have hxa := Ext.alloc no wr (.cells #[.int .i64 c.coll, .string (str c.key), .string (str c.val), .bool c.del] 39)
      replace hW := hW.comp hxa
      replace hm1 := hm1.no hxa
      have hbg := hb2
      replace hb2 := Nat.lt_of_lt_of_le hb2 hxa.size
      generalize wr.alloc (.cells #[.int .i64 c.coll, .string (str c.key), .string (str c.val), .bool c.del] 39) = w2 at *
      generalize wr.heap.size = gx at *
      clear hxa y0 y1 y2 y3
      have z0 := hX.cell 0 _ rfl
      have z1 := hX.cell 1 _ rfl
      have z2 := hX.cell 2 _ rfl
      have z3 := hX.cell 3 _ rfl
      by_cases g1 : c.coll < 0
      · have e1 : decide (c.coll < 0) = true := decT g1
        have hE : chErr c = 1 := by unfold chErr; rw [if_pos (.inl g1)]
        have HE := Lib.hid (show K = 1 by rw [HB.out (by rw [hE]; simp), hE])
        clear g1 hE
        go_wp2_with fail
        go_ret
        exact ⟨by rw [(HRK.out (.inl (by rw [HE.out]; simp))).1, HE.out]; rfl, Hsame.out _ (.inl (by rw [HE.out]; simp)) hW⟩
      have e1 : decide (c.coll < 0) = false := decF g1
      by_cases g2 : 3 ≤ c.coll
      · have e2 : decide (3 ≤ c.coll) = true := decT g2
        have hE : chErr c = 1 := by unfold chErr; rw [if_pos (.inr g2)]
        have HE := Lib.hid (show K = 1 by rw [HB.out (by rw [hE]; simp), hE])
        clear g1 g2 hE
        go_wp2_with fail
        go_ret
        exact ⟨by rw [(HRK.out (.inl (by rw [HE.out]; simp))).1, HE.out]; rfl, Hsame.out _ (.inl (by rw [HE.out]; simp)) hW⟩
      have e2 : decide (3 ≤ c.coll) = false := decF g2
      have h5 : ∀ q : ¬ (textOk c.key = true ∧ c.key ≠ [] ∧ textOk c.val = true), K = 5 := fun q => by
        have : chErr c = 5 := by unfold chErr; rw [if_neg (by omega), if_neg q]
        rw [HB.out (by rw [this]; simp), this]
      have H5 := Lib.hid h5
      have h0 : textOk c.key = true ∧ c.key ≠ [] ∧ textOk c.val = true → chErr c = 0 := fun q => by unfold chErr; rw [if_neg (by omega), if_pos q]
      have H0 := Lib.hid h0
      clear g1 g2 h5 h0 HB
      go_wp2_with fail
      refine (kvtext_any w2 c.key hck).mono ?_
      rintro e _ ⟨rfl, rfl⟩
      cases t1 : textOk c.key with
      | false =>
        have HE := Lib.hid (H5.out (by rw [t1]; simp))
        go_wp2_with fail
        go_ret
        exact ⟨by rw [(HRK.out (.inl (by rw [HE.out]; simp))).1, HE.out]; rfl, Hsame.out _ (.inl (by rw [HE.out]; simp)) hW⟩
      | true =>
        by_cases t2 : c.key = []
        · have HE := Lib.hid (H5.out (fun q => q.2.1 t2))
          have e3 : ((str c.key).toList == ([] : List UInt8)) = true := by rw [toList_str, t2]; rfl
          clear t2
          go_wp2_with fail
          go_ret
          exact ⟨by rw [(HRK.out (.inl (by rw [HE.out]; simp))).1, HE.out]; rfl, Hsame.out _ (.inl (by rw [HE.out]; simp)) hW⟩
        · have e3 : ((str c.key).toList == ([] : List UInt8)) = false := by rw [toList_str, beq_eq_false_iff_ne]; exact t2
          go_wp2_with fail
          refine (kvtext_any w2 c.val hcv).mono ?_
          rintro e _ ⟨rfl, rfl⟩
          cases t4 : textOk c.val with
          | false =>
            have HE := Lib.hid (H5.out (by rw [t4]; simp))
            go_wp2_with fail
            go_ret
            exact ⟨by rw [(HRK.out (.inl (by rw [HE.out]; simp))).1, HE.out]; rfl, Hsame.out _ (.inl (by rw [HE.out]; simp)) hW⟩
          | true =>
            have HZ := Lib.hid (H0.out ⟨t1, t2, t4⟩)
            go_wp2_with fail
            refine (kvput_any w2 b' (kvLays m (l.take i)) c hm1 hcok).mono ?_
            rintro e w3 ⟨rfl, hm3, hx3⟩
            have hgo' : ∀ d ∈ l.take (i + 1), chErr d = 0 := fun d hd => by
              rw [HT.out] at hd
              rcases List.mem_append.1 hd with hd | hd
              · exact Hgo.out d hd
              · rw [List.mem_singleton] at hd; rw [hd]; exact HZ.out
            have Hgo' := Lib.hid hgo'
            have hm4 : MapIn w3 b' (kvLays m (l.take (i + 1))) := by rw [HT.out, kvLays_append]; exact hm3
            have hW3 := hW.trans hx3 (fun k hk e => by have e : k = b' := e; omega)
            have hb3 := Nat.lt_of_lt_of_le hb2 hx3.size
            clear hgo' hm3 hx3 hW hm1 z0 z1 z2 z3 hX
            go_wp2_with fail
            go_roundw
            case rel => exact ⟨i + 1, by go_num, by omega, Hgo'.out, hm4, hW3, hb3⟩
            case measure => simp [intOf]; omega
    · have hiE : i = l.length := by omega
      subst hiE
      have d2 : decide (l.length < l.length) = false := decF (by omega)
      rw [List.take_of_length_le (Nat.le_refl _)] at hm1
      have hfe : firstErr l = 0 := (firstErr_zero l).2 (fun c hc => Hgo.out c (by rw [List.take_of_length_le (Nat.le_refl _)]; exact hc))
      have hle := kvLays_len l m
      have hml2 := maplen_run hm1 (by omega)
      have hKE : K = if 300 < (kvLays m l).length then 4 else 0 := by
        rw [HK.out]
        unfold kvErr
        rw [if_neg h20, if_neg (by rw [hfe]; simp)]
      have HKE := Lib.hid hKE
      clear hKE hin hil
      by_cases h300 : 300 < (kvLays m l).length
      · have d3 : decide ((300 : Int) < ((kvLays m l).length : Int)) = true := decT (by omega)
        have HE := Lib.hid (show K = 4 by rw [HKE.out, if_pos h300])
        go_wp2_with fail
        go_ret
        exact ⟨by rw [(HRK.out (.inl (by rw [HE.out]; simp))).1, HE.out]; rfl, Hsame.out _ (.inl (by rw [HE.out]; simp)) hW⟩
      have d3 : decide ((300 : Int) < ((kvLays m l).length : Int)) = false := decF (by omega)
      have HE := Lib.hid (show K = 0 by rw [HKE.out, if_neg h300])
      by_cases hl0 : l.length = 0
      · have hnil : l = [] := List.length_eq_zero_iff.1 hl0
        have d4 : ((l.length : Int) == 0) = true := by rw [beq_iff_eq]; omega
        have Hnil := Lib.hid hnil
        clear hnil hl0
        go_wp2_with fail
        go_ret
        exact ⟨by rw [(HRK.out (.inr Hnil.out)).1, HE.out]; rfl, Hsame.out _ (.inr Hnil.out) hW⟩
      have d4 : ((l.length : Int) == 0) = false := by rw [beq_eq_false_iff_ne]; omega
      have hne : l ≠ [] := fun e => hl0 (by rw [e]; rfl)
      have hshort : ∀ c ∈ l, I64ok c.coll ∧ c.short := fun c hc => chErr_short ((firstErr_zero l).1 hfe c hc)
      go_wp2_with fail
      refine (kvbytes_any wr la l lc (hr.ext hW (fun _ _ h => h)) (by omega) hshort).mono ?_
      rintro e w4 ⟨a4, c4, rfl, hown4, hx4⟩
      have hW4 := hW.comp hx4
      have hm4 := hm1.no hx4
      have hb4 := Nat.lt_of_lt_of_le hb2 hx4.size
      have hS4 := H.out.blk.ext (by simp) hW4 (fun h => h)
      have hD4 := (HM.out.dkM.fewer (N' := fun i => ((i = s ∨ i = j ∨ i = b) ∨ M i) ∨ i = b') (fun k hk hh => by rcases hh with q | q; exact q; omega)).no hW4
      have hMw := HM.out.mlt
      have hJ4 : Blk w4 j (jcells g n) := H.out.jn.ext (by simp) hW4 (fun h => h)
      have hwl := hW4.size
      have hel := batch_len l ((firstErr_zero l).1 hfe) (by omega)
      have hmb4 := H.out.mp.no hW4
      clear hm1 hx4 hW hml2
      go_wp2_with fail
      refine (kvwrite_all w4 g s j b n ds m X (fun i => ((i = s ∨ i = j ∨ i = b) ∨ M i) ∨ i = b') hS4 hmb4 hD4 hJ4 H.out.sg H.out.sj H.out.bg (fun e => H.out.jb e.symm) H.out.jg (.inl (.inl (.inr (.inl rfl)))) (fun k hk => by rcases hk with ((q | q | q) | q) | q; omega; omega; omega; have := hMw k q; omega; omega) HT.out HG.out hml hok hd hn a4 c4 (kvEnc l) hown4.rd (by omega) (fun ad ha => by have := (hown4.base ad ha).1; omega)).mono ?_
      have eAR : wrAll ds n (kvEnc (wholeX X)) (kvEnc l) = AR := by
        rw [HAR.out]
        unfold apR
        rw [if_neg (by rw [← HK.out, HE.out]; simp), if_neg hne]
      rw [eAR]
      rintro e w5 ⟨rfl, hD5, hJ5, hx5⟩
      have hS5 := hS4.ext (by simp) hx5 (fun h => by rcases h with q | q; exact H.out.sg q; exact H.out.sj q)
      have hm5 := hm4.ext hx5 (fun h => by rcases h with q | q <;> omega)
      have hmb5 := hmb4.ext hx5 (fun h => by rcases h with q | q; exact H.out.bg q; exact H.out.jb q.symm)
      have hWW5 : Ext (three g s j) w w5 := (hW4.mono (fun _ _ h => h.elim)).comp (hx5.mono (fun _ _ h => by rcases h with q | q; exact .inl q; exact .inr (.inr q)))
      have eAM : AM = if AR.2.2 = 0 then kvLays m l else m := by rw [HAM.out, HAR.out]; rfl
      have HAM2 := Lib.hid eAM
      clear eAM HAM HAR eAR
      obtain ⟨R1, R2, R3⟩ := AR
      simp only at hD5 hJ5
      by_cases hR : R3 = 0
      case neg =>
        have d8 : ((R3 : Int) != 0) = true := by rw [bne_iff_ne]; omega
        have hAMm : AM = m := HAM2.out.trans (if_neg hR)
        have hfin : St w5 g s j b R1 R2 m := ⟨hS5, hD5.fewer (N' := fun i => i = s ∨ i = j ∨ i = b) (fun k hk hh => .inl (.inl hh)), hJ5, hmb5, H.out.sg, H.out.jg, H.out.bg, H.out.sj, H.out.sb, H.out.jb⟩
        have HF := Lib.hid (show StM w5 g s j b R1 R2 m M from ⟨hfin, hD5.fewer (fun k hk hh => .inl hh), fun k hk => by have := hMw k hk; have := hWW5.size; omega⟩)
        have HAMm := Lib.hid hAMm
        clear hR hAMm hfin hm5 hS5 hD5 hJ5 hx5 hS4 hD4 hJ4 hm4 hown4 hmb4 hmb5
        go_wp2_with fail
        go_ret
        exact ⟨rfl, b, by rw [HAMm.out]; exact HF.out, .inl rfl, hWW5⟩
      subst hR
      have hAMm : AM = kvLays m l := HAM2.out.trans (if_pos rfl)
      have hx6 : Ext (just s) w5 (w5.setCell ⟨s, 1, none⟩ (.map (some b'))) := Ext.setCell _ _ _ rfl
      have hfin : St (w5.setCell ⟨s, 1, none⟩ (.map (some b'))) g s j b' R1 R2 (kvLays m l) := by
        refine ⟨by have := hS5.set 1 (.map (some b')) (by simp); exact this, (hD5.fewer (N' := fun i => i = s ∨ i = j ∨ i = b') (fun k hk hh => by rcases hh with q | q | q; exact .inl (.inl (.inl q)); exact .inl (.inl (.inr (.inl q))); exact .inr q)).ext hx6 (fun e => H.out.sg (by have e : g = s := e; exact e.symm)) (fun k _ e => .inl e), ?_, hm5.ext hx6 (fun e => by have e : b' = s := e; omega), H.out.sg, H.out.jg, by omega, H.out.sj, by omega, by omega⟩
        have := hJ5.ext (by simp [jcells]) hx6 (fun e => H.out.sj (by have e : j = s := e; exact e.symm))
        exact this
      have hfinM : StM (w5.setCell ⟨s, 1, none⟩ (.map (some b'))) g s j b' R1 R2 (kvLays m l) M := by
        refine ⟨hfin, (hD5.fewer (N' := fun i => (i = s ∨ i = j ∨ i = b') ∨ M i) (fun k hk hh => by rcases hh with (q | q | q) | q; exact .inl (.inl (.inl q)); exact .inl (.inl (.inr (.inl q))); exact .inr q; exact .inl (.inr q))).ext hx6 (fun e => H.out.sg (by have e : g = s := e; exact e.symm)) (fun k _ e => .inl (.inl e)), fun k hk => ?_⟩
        have := hMw k hk
        have := hWW5.size
        have := hx6.size
        omega
      have HF := Lib.hid (And.intro hfinM (hWW5.comp (hx6.mono (fun _ _ h => .inr (.inl h)))))
      have HAMm := Lib.hid hAMm
      have s1 := hS5.cell 1 _ rfl
      have sf := hS5.fr 1
      clear hAMm hfin hfinM hWW5 hx6 hm5 hS5 hD5 hJ5 hx5 hS4 hD4 hJ4 hm4 hown4 hmb4 hmb5
      go_wp2_with fail
      go_ret
      exact ⟨rfl, b', by rw [HAMm.out]; exact HF.out.1, .inr hb1, HF.out.2⟩

end Go.Proofs.Ytpljcnjkdjblmaa
