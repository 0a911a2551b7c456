/- What a store's pairs hands out. -/
import Derived.Test.YtpljcnjkdjblmaaKvV
namespace Go.Proofs.Ytpljcnjkdjblmaa
open Go.RowKit Go.Esc
set_option linter.unusedVariables false
set_option linter.unusedSimpArgs false

set_option maxRecDepth 100000 in
set_option maxHeartbeats 8000000 in
theorem kvgives_any (w : World) (s j b : Nat) (m : KvM) (bs bc bf : Nat) (c : Int) (start : List UInt8) (ks : List (List UInt8)) (N : Nat → Prop) (hB1 : Blk w bs [.pointer (some ⟨s, 0, none⟩)]) (hB2 : Blk w bc [.int .i64 c]) (hB3 : Blk w bf [.string (str start)])
    (hS : Blk w s [.pointer (some ⟨j, 0, none⟩), .map (some b)]) (hm : MapIn w b m) (hks : KsOk m c start ks) (hml : m.length ≤ 1000000) (hNl : ∀ k, N k → k < w.heap.size) (hN : ¬ N bs ∧ ¬ N bc ∧ ¬ N bf ∧ ¬ N s ∧ ¬ N b) :
    Gives Try.prog 56 #[.pointer (some ⟨bs, 0, none⟩), .pointer (some ⟨bc, 0, none⟩), .pointer (some ⟨bf, 0, none⟩)] (fun r : PairR => #[.string (str r.key), .string (str r.val)]) (scanM m c ks) N w := by
  intro l J Jx W hx hl1 hl2 hJ0 hJe hY
  have hlows : bs < w.heap.size ∧ bc < w.heap.size ∧ bf < w.heap.size ∧ s < w.heap.size ∧ b < w.heap.size := ⟨hB1.lt (by simp), hB2.lt (by simp), hB3.lt (by simp), hS.lt (by simp), hm.lt⟩
  replace hB1 := hB1.ext (by simp) hx (fun h => h)
  replace hB2 := hB2.ext (by simp) hx (fun h => h)
  replace hB3 := hB3.ext (by simp) hx (fun h => h)
  replace hS := hS.ext (by simp) hx (fun h => h)
  replace hm := hm.no hx
  have hxl := hx.size
  have hY' := Lib.hid hY
  have hJ0' := Lib.hid hJ0
  have hJe' := Lib.hid hJe
  have hks' := Lib.hid hks
  clear hY hJ0 hJe hks hx
  have hmo := hm
  obtain ⟨es, clock, hb, hst, hme, hok⟩ := hmo
  have hesz : es.size = m.length := by
    have := congrArg List.length hme
    rw [List.length_map, List.length_map, Array.length_toList] at this
    exact this
  have hmp' := Lib.hid hme
  have hok' := Lib.hid hok
  have hst' := Lib.hid hst
  clear hme hok hst
  show Calls Try.prog _ #[.func (.yield l) #[] #[], .pointer (some ⟨bs, 0, none⟩), .pointer (some ⟨bc, 0, none⟩), .pointer (some ⟨bf, 0, none⟩)] W _
  obtain ⟨r, hr⟩ : ∃ r, r = W.heap.size := ⟨_, rfl⟩
  have hrg := run_range_map W 78 _ _ b es clock Try.underlying78 hb
  have hri := heap_alloc_new W (.mapIter (some b) clock #[] clock)
  rw [← hr] at hrg hri
  have hr1 : r ≤ W.heap.size := by omega
  have hr2 : W.heap.size ≤ r := by omega
  clear hr
  have c1 := hB1.cell 0 _ rfl
  have s1 := hS.cell 1 _ rfl
  go_enter Try.func56, Try.ntmps56
  go_wp2_with fail
  go_loopw [5] (fun s5 wr => ∃ (seen : Array Nat) (c0 : Nat) (G : List (List UInt8)) (a : Option Addr) (q : Nat), s5 = .slice a G.length q ∧ wr.heap[r]? = some (.mapIter (some b) clock seen c0) ∧ clock ≤ c0 ∧ Gath es seen c start G ∧ G.length + (leftOf es seen).size ≤ es.size ∧ Own wr (r + 1) a 1 G.length q (kts G) ∧ Ext no W wr) (fun _ wr => (leftOf es (wr.iterSeen r)).size)
  case atStart =>
    have e0 : leftOf es #[] = es := by unfold leftOf; simp
    exact ⟨#[], clock, [], none, 0, rfl, hri, Nat.le_refl _, Gath.nil _ _ _, by rw [e0]; simp, Own.nil _ _ _, Ext.alloc no W _⟩
  case round =>
    clear c1 s1 hrg hri
    obtain ⟨seen, c0, G, a, q, rfl, hit, hc0, hg, hgl, hown, hW⟩ := hrel
    have hG := Lib.hid hg
    have hGL := Lib.hid hgl
    have hGn : G.length ≤ m.length := by omega
    clear hg hgl
    have hbw : wr.heap[b]? = some (.map es clock) := (hW.block b (by omega) (fun h => h)).trans hb
    have hlaw := run_next_at (P := Try.prog) wr 0 r b clock c0 seen es clock hit hbw (fun x hx => hst'.out.1 x hx) hc0
    have hseen : wr.iterSeen r = seen := by unfold World.iterSeen; rw [hit]
    have hSeen := Lib.hid hseen
    clear hseen
    rcases hlaw with ⟨hz, hnx⟩ | ⟨e, he, w1, hw1, hnx⟩
    · have hsr : srt G = ks := ((hG.out.done hz hmp'.out)).uniq hks'.out
      have hSR := Lib.hid hsr
      clear hsr hz
      go_wp2_with fail
      refine (kvsort_any wr (r + 1) a q G hown (by omega)).mono ?_
      rintro e w3 ⟨rfl, hown3, hx3⟩
      rw [hSR.out] at hown3
      have hkl : ks.length = G.length := by rw [← hSR.out]; exact (srt_perm G).length_eq
      rw [← hkl]
      have hkl2 : ks.length ≤ m.length := by omega
      have HKL := Lib.hid hkl
      clear hkl hnx
      have hW3 : Ext no W w3 := hW.trans hx3 (fun k hk => by rintro ⟨ad, h, hh⟩; have := (hown.base ad h).1; omega)
      have hJ := hJ0'.out w3 hW3
      obtain ⟨M, hM⟩ : ∃ M, M = w3.heap.size := ⟨_, rfl⟩
      rw [← hM] at hJ
      have hM1 : M ≤ w3.heap.size := by omega
      have hM2 : W.heap.size ≤ M := by have := hW3.size; omega
      have hM3 : w3.heap.size ≤ M := by omega
      have HJ := Lib.hid hJ
      have hB1 := hB1.ext (by simp) hW3 (fun h => h)
      have hB2 := hB2.ext (by simp) hW3 (fun h => h)
      have hS := hS.ext (by simp) hW3 (fun h => h)
      have hm3 := hm.no hW3
      clear hM hJ hown hW hx3 hbw hit
      go_wp2_with fail
      go_loopw [37] (fun s37 wr => ∃ i : Nat, s37 = .int .i64 i ∧ i ≤ ks.length ∧ J M i wr ∧ Ext (fun k => N k ∨ k = l ∨ M ≤ k) w3 wr) (fun s37 _ => ks.length - (intOf s37).toNat)
      case atStart => exact ⟨0, rfl, Nat.zero_le _, HJ.out, Ext.refl _ _⟩
      case round =>
        clear HJ
        obtain ⟨i, rfl, hil, hj, hX⟩ := hrel
        have HJ := Lib.hid hj
        clear hj
        by_cases hin : i < ks.length
        · have d1 : decide (i < ks.length) = true := decT hin
          obtain ⟨k, hk⟩ : ∃ k, ks[i]? = some k := ⟨_, List.getElem?_eq_getElem hin⟩
          have hxi : (scanM m c ks)[i]? = some ⟨k, (kvGet m (c, k)).getD []⟩ := by unfold scanM; rw [List.getElem?_map, hk]; rfl
          have hyy := hY'.out M i _ wr.drew hM2 (hJe'.out M i _ _ HJ.out (Ext.drew no wr)) hxi
          obtain ⟨v, hv⟩ : ∃ v, v = (kvGet m (c, k)).getD [] := ⟨_, rfl⟩
          rw [← hv] at hyy
          have HV := Lib.hid hv
          have hpl : PlOk (c, k) := by
            obtain ⟨⟨u, hu⟩, _⟩ := (hks'.out.mem k).1 (List.mem_of_getElem? hk)
            exact hok'.out _ hu
          obtain ⟨fn, tm, asg, bd, hyr, hR⟩ := hyy
          dsimp only at hyr
          have nb : ∀ x, x < w.heap.size → ¬ N x → ¬ (N x ∨ x = l ∨ M ≤ x) := fun x h1 h2 h3 => by
            rcases h3 with h3 | h3 | h3
            · exact h2 h3
            · omega
            · omega
          have B1 := hB1.ext (by simp) hX (nb _ hlows.1 hN.1)
          have B2 := hB2.ext (by simp) hX (nb _ hlows.2.1 hN.2.1)
          have S1 := hS.ext (by simp) hX (nb _ hlows.2.2.2.1 hN.2.2.2.1)
          have m1 := hm3.ext hX (nb _ hlows.2.2.2.2 hN.2.2.2.2)
          have hgr : ∀ ad, a = some ad → ¬ (N ad.block ∨ ad.block = l ∨ M ≤ ad.block) := fun ad had h3 => by
            have h4 := hown3.base ad had
            rcases h3 with h3 | h3 | h3
            · have h5 := hNl _ h3
              omega
            · omega
            · omega
          have hrd := hown3.rd.ext hX hgr
          obtain ⟨ad, had, hcl⟩ := hrd i (.string (str k)) (by unfold kts; rw [List.getElem?_map, hk]; rfl)
          obtain ⟨ab, ao, asp⟩ := ad
          have hsp : asp = none := (hown3.base _ had).2.2
          subst hsp
          subst had
          have q0 : ((⟨ab, ao, none⟩ : Addr).add i) = ⟨ab, ao + i, none⟩ := by simp [Addr.add]
          have hcl' : wr.cell? ⟨ab, ao + i, none⟩ = some (.string (str k)) := by rw [← q0]; exact hcl
          clear q0
          have x1 : wr.cell? ⟨bs, 0, none⟩ = some (.pointer (some ⟨s, 0, none⟩)) := B1.cell 0 _ rfl
          have x2 : wr.cell? ⟨bc, 0, none⟩ = some (.int .i64 c) := B2.cell 0 _ rfl
          have x3 : wr.cell? ⟨s, 1, none⟩ = some (.map (some b)) := S1.cell 1 _ rfl
          have hlk := mapget1_run (m1.no (Ext.drew no wr)) (c, k) hpl
          rw [← HV.out] at hlk
          unfold plV at hlk
          dsimp only at hlk
          clear hcl hrd hgr B1 B2 S1 hv hk hxi
          go_upto_region 10 with fail
          refine (wpIn_wide (n := 0)).1 (wpIn_region_G [2, 5, 6, 9] (looks [(2, fun z => z = wr.drew), (5, fun z => z = wr.drew), (6, fun z => z = wr.drew), (9, fun z => z = wr.drew)]) (by kernel_rfl) ?_)
          have hT0 : ∀ k, looks [(2, fun z => z = wr.drew), (5, fun z => z = wr.drew), (6, fun z => z = wr.drew), (9, fun z => z = wr.drew)] k (wr.drew) := looks_all ⟨rfl, rfl, rfl, rfl, trivial⟩
          refine wpG_take 0 (v := ?_) rfl (by kernel_rfl) (by kernel_rfl) (by kernel_rfl) (fun _ _ _ h => h) hT0 (by rfl) ?_ ?_
          rotate_left
          · (intro wq; go_simp; try with_reducible rfl)
          simp only [Act.put, List.setIfInBounds_toArray, List.set_cons_zero, List.set_cons_succ]
          refine wpG_take 1 (v := ?_) rfl (by kernel_rfl) (by kernel_rfl) (by kernel_rfl) (fun _ _ _ h => h) hT0 (by rfl) ?_ ?_
          rotate_left
          · (intro wq; go_simp; try with_reducible rfl)
          simp only [Act.put, List.setIfInBounds_toArray, List.set_cons_zero, List.set_cons_succ]
          refine wpG_look 2 (v := .pointer (some ⟨s, 0, none⟩)) rfl rfl (by kernel_rfl) (by kernel_rfl) (by kernel_rfl) (by kernel_rfl) (fun _ _ _ h => h) hT0 (by rfl) (fun w hS => by have hS : w = wr.drew := hS; subst hS; go_simp) ?_
          simp only [Act.put, List.setIfInBounds_toArray, List.set_cons_zero, List.set_cons_succ]
          refine wpG_take 3 (v := ?_) rfl (by kernel_rfl) (by kernel_rfl) (by kernel_rfl) (fun _ _ _ h => h) hT0 (by rfl) ?_ ?_
          rotate_left
          · (intro wq; go_simp; try with_reducible rfl)
          simp only [Act.put, List.setIfInBounds_toArray, List.set_cons_zero, List.set_cons_succ]
          refine wpG_take 4 (v := ?_) rfl (by kernel_rfl) (by kernel_rfl) (by kernel_rfl) (fun _ _ _ h => h) hT0 (by rfl) ?_ ?_
          rotate_left
          · (intro wq; go_simp; try with_reducible rfl)
          simp only [Act.put, List.setIfInBounds_toArray, List.set_cons_zero, List.set_cons_succ]
          refine wpG_look 5 (v := .map (some b)) rfl rfl (by kernel_rfl) (by kernel_rfl) (by kernel_rfl) (by kernel_rfl) (fun _ _ _ h => h) hT0 (by rfl) (fun w hS => by have hS : w = wr.drew := hS; subst hS; go_simp) ?_
          simp only [Act.put, List.setIfInBounds_toArray, List.set_cons_zero, List.set_cons_succ]
          refine wpG_look 6 (v := .int .i64 c) rfl rfl (by kernel_rfl) (by kernel_rfl) (by kernel_rfl) (by kernel_rfl) (fun _ _ _ h => h) hT0 (by rfl) (fun w hS => by have hS : w = wr.drew := hS; subst hS; go_simp) ?_
          simp only [Act.put, List.setIfInBounds_toArray, List.set_cons_zero, List.set_cons_succ]
          refine wpG_take 7 (v := ?_) rfl (by kernel_rfl) (by kernel_rfl) (by kernel_rfl) (fun _ _ _ h => h) hT0 (by rfl) ?_ ?_
          rotate_left
          · (intro wq; go_simp; try with_reducible rfl)
          simp only [Act.put, List.setIfInBounds_toArray, List.set_cons_zero, List.set_cons_succ]
          refine wpG_take 8 (v := ?_) rfl (by kernel_rfl) (by kernel_rfl) (by kernel_rfl) (fun _ _ _ h => h) hT0 (by rfl) ?_ ?_
          rotate_left
          · (intro wq; go_simp; try with_reducible rfl)
          simp only [Act.put, List.setIfInBounds_toArray, List.set_cons_zero, List.set_cons_succ]
          refine wpG_look 9 (v := .string (str v)) rfl rfl (by kernel_rfl) (by kernel_rfl) (by kernel_rfl) (by kernel_rfl) (fun _ _ _ h => h) hT0 (by rfl) (fun w hS => by have hS : w = wr.drew := hS; subst hS; go_simp) ?_
          simp only [Act.put, List.setIfInBounds_toArray, List.set_cons_zero, List.set_cons_succ]
          refine wpG_exec 10 rfl (by kernel_rfl) (by rfl) ?_
          intro K hK
          unfold Oper.wpIn
          refine ⟨fun _ _ => trivial, ?_⟩
          rw [show Fence.wide.round = none from rfl, Oper.semAt_none]
          go_simp
          refine ⟨rfl, hR.mono ?_⟩
          rintro e v1 hor
          obtain ⟨bv, rfl, hor⟩ : ∃ bv : Bool, e = .returned (.bool bv) ∧ ((bv = true ∧ J M (i + 1) v1 ∧ Ext (fun k => N k ∨ k = l ∨ M ≤ k) wr.drew v1) ∨ (bv = false ∧ Jx v1)) := by
                rcases hor with ⟨e1, e2⟩ | ⟨e1, e2⟩
                · exact ⟨true, e1, .inl ⟨rfl, e2⟩⟩
                · exact ⟨false, e1, .inr ⟨rfl, e2⟩⟩
          show K _ v1
          have hT1 : ∀ k, looks [(2, fun z => True), (5, fun z => True), (6, fun z => True), (9, fun z => True)] k (v1) := looks_all ⟨trivial, trivial, trivial, trivial, trivial⟩
          refine hK _ _ (looks [(2, fun z => True), (5, fun z => True), (6, fun z => True), (9, fun z => True)]) ⟨.inr (.inl (by kernel_rfl)), .inr (.inl (by kernel_rfl)), .inr (.inl (by kernel_rfl)), .inr (.inl (by kernel_rfl)), trivial⟩ hT1 ?_
          clear hK K
          try simp only [Act.put, List.setIfInBounds_toArray, List.set_cons_zero, List.set_cons_succ]
          refine wpG_take 11 (v := ?_) rfl (by kernel_rfl) (by kernel_rfl) (by kernel_rfl) (fun _ _ _ h => h) hT1 (by rfl) ?_ ?_
          rotate_left
          · (intro wq; go_simp; try with_reducible rfl)
          simp only [Act.put, List.setIfInBounds_toArray, List.set_cons_zero, List.set_cons_succ]
          refine wpG_done (by kernel_rfl) ?_ _
          have HOR := Lib.hid hor
          clear hor hlk hyr hR m1 x1 x2 x3 hcl'
          cases bv with
          | true =>
            obtain ⟨_, j1, j2⟩ := HOR.out.resolve_right (fun h => by cases h.1)
            have hX2 := (hX.comp (Ext.drew _ wr)).comp j2
            have HJ2 := Lib.hid j1
            clear j1 j2 HOR hX HJ
            go_wp2_with fail
            go_roundw
            case rel => exact ⟨i + 1, by go_num, by omega, HJ2.out, hX2⟩
            case measure => simp [intOf]; omega
          | false =>
            have jx := (HOR.out.resolve_left (fun h => by cases h.1)).2
            have JX := Lib.hid jx
            clear jx HOR
            go_wp2_with fail
            refine bodyPost_ret (results_none rfl _ _ _) rfl ?_
            exact ⟨⟨_, rfl⟩, .inr JX.out⟩
        · have hiE : i = ks.length := by omega
          subst hiE
          have d1 : decide (ks.length < ks.length) = false := decF (by omega)
          go_wp2_with fail
          go_end0
          refine ⟨⟨_, rfl⟩, .inl ⟨M, hM2, ?_⟩⟩
          have hsl : (scanM m c ks).length = ks.length := by unfold scanM; rw [List.length_map]
          rw [hsl]
          exact HJ.out
    · have hml' := mem_left he
      obtain ⟨p, v, hkey, hval, hpm⟩ := entry_place hmp'.out hml'.1
      have hsh := left_shrinks es seen e he
      have hr3 : w1.heap[r]? = some (.mapIter (some b) clock seen c0) := by rcases hw1 with rfl | rfl <;> exact hit
      have hx2 : Ext (just r) wr (ChangeMaps.setBlock w1 r (.mapIter (some b) clock (seen.push e.born) clock)) := by
        rcases hw1 with rfl | rfl
        · exact Ext.setBlock _ _ _
        · exact (Ext.drew (just r) wr).comp (Ext.setBlock _ _ _)
      have hit2 : (ChangeMaps.setBlock w1 r (.mapIter (some b) clock (seen.push e.born) clock)).heap[r]? = some (.mapIter (some b) clock (seen.push e.born) clock) := heap_setBlock _ _ _ (Array.getElem?_eq_some_iff.1 hr3).1
      obtain ⟨w2, hw2⟩ : ∃ w2, w2 = ChangeMaps.setBlock w1 r (.mapIter (some b) clock (seen.push e.born) clock) := ⟨_, rfl⟩
      rw [← hw2] at hnx hx2 hit2
      have hrW : wr.heap.size ≤ w2.heap.size := hx2.size
      have hbW : w2.heap[b]? = some (.map es clock) := (hx2.block b (Array.getElem?_eq_some_iff.1 hbw).1 (fun e => by have e : b = r := e; omega)).trans hbw
      have hen := run_entry_at (P := Try.prog) w2 r b clock seen es clock e hit2 hbW hml'.1 hst'.out.2.1
      rw [hkey, hval] at hnx hen
      unfold plV at hnx hen
      have hW2 : Ext no W w2 := hW.trans hx2 (fun k hk e => by have e : k = r := e; omega)
      have hown2 := hown.ext hx2 (fun ad had e => by have e : ad.block = r := e; have := (hown.base ad had).1; omega)
      have hB2 := hB2.ext (by simp) hW2 (fun h => h)
      have hB3 := hB3.ext (by simp) hW2 (fun h => h)
      have hmeas : (leftOf es (seen.push e.born)).size < (leftOf es (wr.iterSeen r)).size := by rw [hSeen.out]; exact hsh
      have HM := Lib.hid hmeas
      have HGL : G.length + 1 + (leftOf es (seen.push e.born)).size ≤ es.size := by have := hGL.out; omega
      clear hw2 hw1 hr3 hown hW hit hbw hx2 hmeas hsh
      obtain ⟨pc, pk⟩ := p
      have HK := Lib.hid hkey
      have HML := Lib.hid hml'
      clear hkey hval hml' he
      dsimp only at hnx hen
      go_upto_region 4 with fail
      have hP := Blk.lit w2 #[.int .i64 pc, .string (str pk)] 84
      have hx3 := Ext.alloc no w2 (.cells #[.int .i64 pc, .string (str pk)] 84)
      have hit3 := (hx3.block r (Array.getElem?_eq_some_iff.1 hit2).1 (fun h => h)).trans hit2
      have hB2 := hB2.ext (by simp) hx3 (fun h => h)
      have hB3 := hB3.ext (by simp) hx3 (fun h => h)
      have hW3 := hW2.comp hx3
      have hown3 := hown2.ext hx3 (fun _ _ h => h)
      generalize w2.alloc (.cells #[.int .i64 pc, .string (str pk)] 84) = w3 at *
      generalize w2.heap.size = gp at *
      have p0 := hP.cell 0 _ rfl
      have p1 := hP.cell 1 _ rfl
      have y2 := hB2.cell 0 _ rfl
      have y3 := hB3.cell 0 _ rfl
      have hfin : ∀ G', Gath es (seen.push e.born) c start G' → G'.length ≤ G.length + 1 → ∀ a' q' w4, Own w4 (r + 1) a' 1 G'.length q' (kts G') → Ext (upfrom (r + 1)) w3 w4 → (∃ (seen : Array Nat) (c0 : Nat) (G : List (List UInt8)) (a : Option Addr) (q : Nat), Value.slice a' G'.length q' = .slice a G.length q ∧ w4.heap[r]? = some (.mapIter (some b) clock seen c0) ∧ clock ≤ c0 ∧ Gath es seen c start G ∧ G.length + (leftOf es seen).size ≤ es.size ∧ Own w4 (r + 1) a 1 G.length q (kts G) ∧ Ext no W w4) ∧ (leftOf es (w4.iterSeen r)).size < (leftOf es (wr.iterSeen r)).size := by
        intro G' hG1 hG2 a' q' w4 ho4 hx4
        have hit4 := (hx4.block r (Array.getElem?_eq_some_iff.1 hit3).1 (fun h => by have h : r + 1 ≤ r := h; omega)).trans hit3
        refine ⟨⟨_, clock, G', a', q', rfl, hit4, Nat.le_refl _, hG1, by omega, ho4, hW3.trans hx4 (fun k hk h => by have h : r + 1 ≤ k := h; omega)⟩, ?_⟩
        have : w4.iterSeen r = seen.push e.born := by unfold World.iterSeen; rw [hit4]
        rw [this]
        exact HM.out
      have HF := Lib.hid hfin
      clear hfin hit2 hx3 hbW hW2 hown2 hnx hen hB2 hB3 hP
      by_cases g1 : pc = c
      · have d1 : (pc == c) = true := by rw [beq_iff_eq]; exact g1
        cases g2 : Op.bytesLess pk start with
        | true =>
          have d2 : Op.bytesLess (str pk).toList (str start).toList = true := by rw [toList_str, toList_str]; exact g2
          have hf := HF.out G (hG.out.skip hst'.out.2.1 HML.out.1 (pc, pk) HK.out (fun hq => by rw [show (pc, pk).2 = pk from rfl, g2] at hq; cases hq.2)) (by omega) a q w3 hown3 (Ext.refl _ _)
          have HF2 := Lib.hid hf
          clear hf HF g1
          go_wp2_with fail
          go_roundw
          case rel => exact HF2.out.1
          case measure => exact HF2.out.2
        | false =>
          have d2 : Op.bytesLess (str pk).toList (str start).toList = false := by rw [toList_str, toList_str]; exact g2
          have hg' := hG.out.take hst'.out.2.1 hst'.out.2.2 HML.out.1 HML.out.2 pk (by rw [← g1]; exact HK.out) g2
          have HG' := Lib.hid hg'
          clear hg' g1
          have hX1 : Rd (w3.alloc (.cells #[.string (str pk)] 9)) (some ⟨w3.heap.size, 0, none⟩) [.string (str pk)] := Rd.lit w3 #[.string (str pk)] _ _
          go_wp2_with (at_builtin; refine wpList_append TStr rfl rfl rfl (hown3.alloc _) rfl hX1 rfl (fun u hu => by rw [List.mem_singleton] at hu; subst hu; rfl) ?c1 ?c2 ?c3 ?_)
          case c1 => unfold maxLen; omega
          case c2 => omega
          case c3 => first | omega | (have := hW3.size; simp; omega)
          intro a' c' w5 hp5
          have ho : Own w5 (r + 1) a' 1 (G ++ [pk]).length c' (kts (G ++ [pk])) := by have q := hp5.own; rw [List.length_append]; unfold kts at q ⊢; rw [List.map_append]; exact q
          have hx5 : Ext (upfrom (r + 1)) w3 w5 := (Ext.alloc _ w3 (.cells #[.string (str pk)] 9)).comp (hp5.ext.mono (fun k hk => by rintro ⟨ad, h, hh⟩; have := (hown3.base ad h).1; show r + 1 ≤ k; omega))
          have hf := HF.out (G ++ [pk]) HG'.out (by simp) a' c' w5 ho hx5
          rw [List.length_append, List.length_singleton] at hf
          have HF2 := Lib.hid hf
          clear hf HF hp5 hX1 hown3 ho hx5
          go_wp2_with fail
          go_roundw
          case rel => exact HF2.out.1
          case measure => exact HF2.out.2
      · have d1 : (pc == c) = false := by rw [beq_eq_false_iff_ne]; exact g1
        have hf := HF.out G (hG.out.skip hst'.out.2.1 HML.out.1 (pc, pk) HK.out (fun hq => g1 hq.1)) (by omega) a q w3 hown3 (Ext.refl _ _)
        have HF2 := Lib.hid hf
        clear hf HF g1
        go_wp2_with fail
        go_roundw
        case rel => exact HF2.out.1
        case measure => exact HF2.out.2
end Go.Proofs.Ytpljcnjkdjblmaa
