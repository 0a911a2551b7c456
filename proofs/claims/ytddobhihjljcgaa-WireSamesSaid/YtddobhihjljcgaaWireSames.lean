/- The walk of WireSames. -/
import Derived.Test.YtddobhihjljcgaaWiSame
import Derived.Test.YtddobhihjljcgaaWiO
namespace Go.Proofs.Ytddobhihjljcgaa
open Go.RowKit Go.Esc
set_option linter.unusedVariables false
set_option linter.unusedSimpArgs false
def far (lo hi k : Nat) : Prop := k < lo ∨ hi ≤ k
/-- Two good messages of one, each in its box. -/
structure Two (w0 wx : World) (m : MsgR) (h : MsgA) (M : MsgR) (ga gb gB : Nat) (hA hB : MsgA) : Prop where
  bA : Blk wx ga (M.cells hA)
  bB : Blk wx gb (M.cells hB)
  bS : Blk wx gB (bls M.subs)
  sb : hB.b = some ⟨gB, 0, none⟩
  ab : ga ≠ gb
  aS : ga ≠ gB
  bS' : gb ≠ gB
  la : w0.heap.size ≤ ga
  lb : w0.heap.size ≤ gb
  lS : w0.heap.size ≤ gB
  x : Ext no w0 wx
  kA : ∀ (S : Nat → Prop) (wz : World), Ext S wx wz → (∀ k, S k → k = gb ∨ k = gB) → m.In wz h → M.In wz hA
  kB : ∀ (S : Nat → Prop) (wz : World) (sb : List Bool), Ext S wx wz → (∀ k, S k → k = gb ∨ k = gB) → sb.length = 3 → Rd wz (some ⟨gB, 0, none⟩) (bls sb) → m.In wz h → ({ M with subs := sb } : MsgR).In wz hB
theorem w64_ok (x : Int) : I64ok (wrap64 x) := by unfold I64ok wrap64; omega
theorem w64_ne (x : Int) (h : I64ok x) : x ≠ wrap64 (x + 1) := by unfold I64ok at h; unfold wrap64; omega
theorem blk_rd {w : World} {g : Nat} {cs : List Value} (h : Blk w g cs) : Rd w (some ⟨g, 0, none⟩) cs := fun j v hv => ⟨_, rfl, by rw [Addr.add_lit, Nat.zero_add]; exact h.cell j v hv⟩
theorem same0 (M : MsgR) (y : Int) (hne : M.dev ≠ y) : sameP M { M with dev := y } ↔ ¬ True := ⟨fun h _ => hne h.1, fun h => absurd trivial h⟩
theorem same1 (M : MsgR) (y : Int) (hne : M.req ≠ y) : sameP M { M with req := y } ↔ ¬ (M.kind = 2 ∨ M.kind = 5) := by
  constructor
  · intro h k
    rcases k with k | k
    · exact hne (h.2.2.1 k).1
    · exact hne (h.2.2.2.2.2 k).1
  · intro hk
    exact ⟨rfl, fun _ => ⟨rfl, rfl, rfl, rfl, rfl⟩, fun k => absurd (.inl k) hk, fun _ => ⟨rfl, rfl, rfl⟩, fun _ => ⟨rfl, rfl⟩, fun k => absurd (.inr k) hk⟩
theorem same2 (M : MsgR) (y : Int) (hne : M.pos ≠ y) : sameP M { M with pos := y } ↔ ¬ (M.kind = 2 ∨ M.kind = 3 ∨ M.kind = 4) := by
  constructor
  · intro h k
    rcases k with k | k | k
    · exact hne (h.2.2.1 k).2.1
    · exact hne (h.2.2.2.1 k).2.1
    · exact hne (h.2.2.2.2.1 k).1
  · intro hk
    exact ⟨rfl, fun _ => ⟨rfl, rfl, rfl, rfl, rfl⟩, fun k => absurd (.inl k) hk, fun k => absurd (.inr (.inl k)) hk, fun k => absurd (.inr (.inr k)) hk, fun _ => ⟨rfl, rfl⟩⟩
theorem same3 (M : MsgR) (y : Int) (hne : M.ver ≠ y) : sameP M { M with ver := y } ↔ ¬ (M.kind = 3) := by
  constructor
  · intro h k
    rcases k with k
    · exact hne (h.2.2.2.1 k).1
  · intro hk
    exact ⟨rfl, fun _ => ⟨rfl, rfl, rfl, rfl, rfl⟩, fun _ => ⟨rfl, rfl, ⟨rfl, rfl, rfl, rfl, rfl, rfl⟩⟩, fun k => absurd (k) hk, fun _ => ⟨rfl, rfl⟩, fun _ => ⟨rfl, rfl⟩⟩
theorem same4 (M : MsgR) (y : Int) (hne : M.nxt ≠ y) : sameP M { M with nxt := y } ↔ ¬ (M.kind = 4) := by
  constructor
  · intro h k
    rcases k with k
    · exact hne (h.2.2.2.2.1 k).2
  · intro hk
    exact ⟨rfl, fun _ => ⟨rfl, rfl, rfl, rfl, rfl⟩, fun _ => ⟨rfl, rfl, ⟨rfl, rfl, rfl, rfl, rfl, rfl⟩⟩, fun _ => ⟨rfl, rfl, rfl⟩, fun k => absurd (k) hk, fun _ => ⟨rfl, rfl⟩⟩
theorem same5 (M : MsgR) (y : Int) (hne : M.cmd.n ≠ y) : sameP M { M with cmd := { M.cmd with n := y } } ↔ ¬ (M.kind = 1) := by
  constructor
  · intro h k
    rcases k with k
    · exact hne (h.2.1 k).2.2.2.2
  · intro hk
    exact ⟨rfl, fun k => absurd (k) hk, fun _ => ⟨rfl, rfl, ⟨rfl, rfl, rfl, rfl, rfl, rfl⟩⟩, fun _ => ⟨rfl, rfl, rfl⟩, fun _ => ⟨rfl, rfl⟩, fun _ => ⟨rfl, rfl⟩⟩
theorem same6 (M : MsgR) (y : Int) (hne : M.rep.til ≠ y) : sameP M { M with rep := { M.rep with til := y } } ↔ ¬ (M.kind = 2) := by
  constructor
  · intro h k
    rcases k with k
    · exact hne (h.2.2.1 k).2.2.2.2.2.2.1
  · intro hk
    exact ⟨rfl, fun _ => ⟨rfl, rfl, rfl, rfl, rfl⟩, fun k => absurd (k) hk, fun _ => ⟨rfl, rfl, rfl⟩, fun _ => ⟨rfl, rfl⟩, fun _ => ⟨rfl, rfl⟩⟩
theorem same7 (M : MsgR) (y : List Bool) (hne : M.subs ≠ y) : sameP M { M with subs := y } ↔ ¬ (M.kind = 3) := by
  constructor
  · intro h k
    rcases k with k
    · exact hne (h.2.2.2.1 k).2.2
  · intro hk
    exact ⟨rfl, fun _ => ⟨rfl, rfl, rfl, rfl, rfl⟩, fun _ => ⟨rfl, rfl, ⟨rfl, rfl, rfl, rfl, rfl, rfl⟩⟩, fun k => absurd (k) hk, fun _ => ⟨rfl, rfl⟩, fun _ => ⟨rfl, rfl⟩⟩
theorem same8 (M : MsgR) (y : Int) (hne : M.err ≠ y) : sameP M { M with err := y } ↔ ¬ (M.kind = 5) := by
  constructor
  · intro h k
    rcases k with k
    · exact hne (h.2.2.2.2.2 k).2
  · intro hk
    exact ⟨rfl, fun _ => ⟨rfl, rfl, rfl, rfl, rfl⟩, fun _ => ⟨rfl, rfl, ⟨rfl, rfl, rfl, rfl, rfl, rfl⟩⟩, fun _ => ⟨rfl, rfl, rfl⟩, fun _ => ⟨rfl, rfl⟩, fun k => absurd (k) hk⟩
theorem sameP_symm {a b : MsgR} (hk : b.kind = a.kind) (h : sameP a b) : sameP b a :=
  ⟨h.1.symm, fun k => have q := h.2.1 (hk ▸ k); ⟨q.1.symm, q.2.1.symm, q.2.2.1.symm, q.2.2.2.1.symm, q.2.2.2.2.symm⟩,
   fun k => have q := h.2.2.1 (hk ▸ k); ⟨q.1.symm, q.2.1.symm, q.2.2.1.symm, q.2.2.2.1.symm, q.2.2.2.2.1.symm, q.2.2.2.2.2.1.symm, q.2.2.2.2.2.2.1.symm, q.2.2.2.2.2.2.2.symm⟩,
   fun k => have q := h.2.2.2.1 (hk ▸ k); ⟨q.1.symm, q.2.1.symm, q.2.2.symm⟩, fun k => have q := h.2.2.2.2.1 (hk ▸ k); ⟨q.1.symm, q.2.symm⟩, fun k => have q := h.2.2.2.2.2 (hk ▸ k); ⟨q.1.symm, q.2.symm⟩⟩
theorem Twin.symm {a b : MsgR} (h : Twin a b) : Twin b a := ⟨h.kd.symm, h.kd ▸ h.k1, h.cw.symm, h.co.symm, h.rs.symm, h.ri.symm, h.ru.symm, h.mo.symm, h.sl.symm⟩
theorem notD {r D : Bool} {P : Prop} (hr : r = true ↔ P) (hP : P ↔ D = false) : r = !D := by
  cases r <;> cases D <;> simp_all
theorem far_of {lo hi g : Nat} (h : g < lo ∨ hi ≤ g) : ∀ k, just g k → far lo hi k := fun k e => by have e : k = g := e; subst e; exact h

set_option maxRecDepth 100000 in
set_option maxHeartbeats 4000000 in
theorem wsames_walk (w : World) (m : MsgR) (h : MsgA) (which : Int) (hin : m.In w h) (hok : m.ok) (hwh : I64ok which) :
    Calls Try.prog 7 #[m.val h, .int .i64 which] w fun e w' => e = .returned (.bool true) ∧ Ext no w w' := by
  go_enter Try.func7, Try.ntmps7
  go_upto_region 0 with fail
  refine wp_region_lit ?_
  refine wp_box_msg rfl rfl (by rfl) (fun hC => ?_)
  simp only [Act.put, List.setIfInBounds_toArray, List.set_cons_zero, List.set_cons_succ]
  have hxa := Ext.alloc no w (.cells (m.cells h).toArray 36)
  obtain ⟨g, hg⟩ : ∃ g, g = w.heap.size := ⟨_, rfl⟩
  rw [← hg] at hC ⊢
  have hgw : w.heap.size ≤ g := by omega
  clear hg
  generalize w.alloc (.cells (m.cells h).toArray 36) = w1 at *
  go_wp2_with fail
  refine (wiknown_any w1).mono ?_
  rintro e w2 ⟨rfl, hx2⟩
  have hC2 := hC.ext (msg_ne _ _) hx2 (fun h => h)
  have hxx2 := hxa.comp hx2
  clear hC hxa hx2
  go_upto_region 3 with fail
  refine wp_region_lit ?_
  refine wp_load_msg (m := m) (h := h) rfl rfl (by rfl) hC2 ?_
  simp only [Act.put, List.setIfInBounds_toArray, List.set_cons_zero, List.set_cons_succ]
  go_wp2_with fail
  refine (wifew_any w2 m h (hin.no hxx2) hok).mono ?_
  rintro e w3 ⟨bf, rfl, hbf, hx3⟩
  have hC3 := hC2.ext (msg_ne _ _) hx3 (fun h => h)
  have hxx3 := hxx2.comp hx3
  clear hC2 hxx2 hx3
  cases bf with
  | false =>
    go_wp2_with fail
    go_ret
    exact ⟨rfl, hxx3⟩
  | true =>
    have HF := Lib.hid (hbf rfl).1
    clear hbf
    have hin3 := hin.no hxx3
    go_upto_region 5 with fail
    go_cut [5, 6] (fun s5 s6 wx => ∃ (ga gb gB : Nat) (hA hB : MsgA), s5 = .pointer (some ⟨ga, 0, none⟩) ∧ s6 = .pointer (some ⟨gb, 0, none⟩) ∧ Two w3 wx m h (goodM m) ga gb gB hA hB)
    case first =>
      refine wp_region_F [0, 2] (looks [(0, fun z => Ext no w3 z), (2, fun z => Ext no w3 z)]) (by kernel_rfl) ?_
      have hE0 := Ext.drew no w3
      have hs0 := hE0.size
      generalize w3.drew = wd at *
      have hT0 : ∀ k, looks [(0, fun z => Ext no w3 z), (2, fun z => Ext no w3 z)] k (wd) := looks_all ⟨hE0, hE0, trivial⟩
      refine wpF_look 0 (v := m.val h) rfl rfl (by kernel_rfl) (by kernel_rfl) (by kernel_rfl) (by kernel_rfl) (fun _ _ _ h => h) hT0 (by rfl) (fun w hS => by have hS : Ext no w3 w := hS; exact run_load_msg rfl (by rfl) (hC3.ext (msg_ne _ _) hS (fun h => h))) ?_
      simp only [Act.put, List.setIfInBounds_toArray, List.set_cons_zero, List.set_cons_succ]
      refine wpF_look 2 (v := m.val h) rfl rfl (by kernel_rfl) (by kernel_rfl) (by kernel_rfl) (by kernel_rfl) (fun _ _ _ h => h) hT0 (by rfl) (fun w hS => by have hS : Ext no w3 w := hS; exact run_load_msg rfl (by rfl) (hC3.ext (msg_ne _ _) hS (fun h => h))) ?_
      simp only [Act.put, List.setIfInBounds_toArray, List.set_cons_zero, List.set_cons_succ]
      refine wpF_execs [1, 4, 5] (by kernel_rfl) (by simp) ?_
      intro j hj
      simp only [List.mem_cons, List.not_mem_nil, or_false] at hj
      rcases hj with rfl | rfl | rfl
      · refine ⟨_, rfl, by rfl, ?_⟩
        intro K hK
        go_simp
        refine (wigood_any wd m h (hin3.no hE0) hok).mono ?_
        rintro e u1 ⟨hA, rfl, hAin, hx1, hAg, hAk⟩
        clear hAg hAin
        have hs1 := hx1.size
        have hXA : Ext (far wd.heap.size u1.heap.size) u1 u1 := Ext.refl _ _
        have hE1 := hE0.comp hx1
        have hT1 : ∀ k, looks [(0, fun z => Ext no w3 z), (2, fun z => Ext no w3 z)] k (u1) := looks_all ⟨hE1, hE1, trivial⟩
        refine hK _ _ (looks [(0, fun z => Ext no w3 z), (2, fun z => Ext no w3 z)]) ⟨.inr (.inl (by kernel_rfl)), .inr (.inr (fun x h => h)), trivial⟩ hT1 ?_
        clear hK K
        try simp only [Act.put, List.setIfInBounds_toArray, List.set_cons_zero, List.set_cons_succ]
        refine wpF_execs [3, 4, 5] (by kernel_rfl) (by simp) ?_
        intro j hj
        simp only [List.mem_cons, List.not_mem_nil, or_false] at hj
        rcases hj with rfl | rfl | rfl
        · refine ⟨_, rfl, by rfl, ?_⟩
          intro K hK
          go_simp
          refine (wigood_any u1 m h (hin3.no hE1) hok).mono ?_
          rintro e u2 ⟨hB, rfl, hBin, hx2, ⟨gB, hBb, hBl, hBS, hBlt, hBs⟩, hBk⟩
          clear hBk hBin
          have hs2 := hx2.size
          have hXA : Ext (far wd.heap.size u1.heap.size) u1 u2 := hXA.comp (hx2.mono (fun _ _ h => h.elim))
          have hXB : Ext (far u1.heap.size u2.heap.size) u2 u2 := Ext.refl _ _
          have hE2 := hE1.comp hx2
          have hT2 : ∀ k, looks [(0, fun z => Ext no w3 z), (2, fun z => Ext no w3 z)] k (u2) := looks_all ⟨hE2, hE2, trivial⟩
          refine hK _ _ (looks [(0, fun z => Ext no w3 z), (2, fun z => Ext no w3 z)]) ⟨.inr (.inl (by kernel_rfl)), .inr (.inl (by kernel_rfl)), trivial⟩ hT2 ?_
          clear hK K
          try simp only [Act.put, List.setIfInBounds_toArray, List.set_cons_zero, List.set_cons_succ]
          refine wpF_execs [4, 5] (by kernel_rfl) (by simp) ?_
          intro j hj
          simp only [List.mem_cons, List.not_mem_nil, or_false] at hj
          rcases hj with rfl | rfl
          · refine ⟨_, rfl, by rfl, ?_⟩
            intro K hK
            refine op_alloc_msg rfl (fun hZp5 => ?_)
            have hx3 := Ext.alloc no u2 (.cells (MsgR.zero.cells MsgA.zero).toArray 36)
            obtain ⟨p5, hp5⟩ : ∃ p, p = u2.heap.size := ⟨_, rfl⟩
            rw [← hp5] at hZp5 ⊢
            have hn3 : p5 ≤ u2.heap.size := by omega
            have hm3 : u2.heap.size ≤ p5 := by omega
            clear hp5
            generalize u2.alloc (.cells (MsgR.zero.cells MsgA.zero).toArray 36) = u3 at *
            have hl3 : p5 < u3.heap.size := hZp5.lt (msg_ne _ _)
            have hs3 := hx3.size
            have hXA : Ext (far wd.heap.size u1.heap.size) u1 u3 := hXA.comp (hx3.mono (fun _ _ h => h.elim))
            have hXB : Ext (far u1.heap.size u2.heap.size) u2 u3 := hXB.comp (hx3.mono (fun _ _ h => h.elim))
            have hBS := hBS.ext (by simp [bls, goodM]) hx3 (fun h => h)
            have hE3 := hE2.comp hx3
            have hT3 : ∀ k, looks [(0, fun z => Ext no w3 z), (2, fun z => Ext no w3 z)] k (u3) := looks_all ⟨hE3, hE3, trivial⟩
            refine hK _ _ (looks [(0, fun z => Ext no w3 z), (2, fun z => Ext no w3 z)]) ⟨.inr (.inr (fun x h => h)), .inr (.inr (fun x h => h)), trivial⟩ hT3 ?_
            clear hK K
            try simp only [Act.put, List.setIfInBounds_toArray, List.set_cons_zero, List.set_cons_succ]
            refine wpF_exec 5 rfl (by kernel_rfl) (by rfl) ?_
            intro K hK
            refine op_alloc_msg rfl (fun hZp6 => ?_)
            have hx4 := Ext.alloc no u3 (.cells (MsgR.zero.cells MsgA.zero).toArray 36)
            obtain ⟨p6, hp6⟩ : ∃ p, p = u3.heap.size := ⟨_, rfl⟩
            rw [← hp6] at hZp6 ⊢
            have hn4 : p6 ≤ u3.heap.size := by omega
            have hm4 : u3.heap.size ≤ p6 := by omega
            clear hp6
            generalize u3.alloc (.cells (MsgR.zero.cells MsgA.zero).toArray 36) = u4 at *
            have hl4 : p6 < u4.heap.size := hZp6.lt (msg_ne _ _)
            have hs4 := hx4.size
            have hZp5 := hZp5.ext (msg_ne _ _) hx4 (fun h => h)
            have hXA : Ext (far wd.heap.size u1.heap.size) u1 u4 := hXA.comp (hx4.mono (fun _ _ h => h.elim))
            have hXB : Ext (far u1.heap.size u2.heap.size) u2 u4 := hXB.comp (hx4.mono (fun _ _ h => h.elim))
            have hBS := hBS.ext (by simp [bls, goodM]) hx4 (fun h => h)
            have hE4 := hE3.comp hx4
            have hT4 : ∀ k, looks [(0, fun z => Ext no w3 z), (2, fun z => Ext no w3 z)] k (u4) := looks_all ⟨hE4, hE4, trivial⟩
            refine hK _ _ (looks [(0, fun z => Ext no w3 z), (2, fun z => Ext no w3 z)]) ⟨.inr (.inr (fun x h => h)), .inr (.inr (fun x h => h)), trivial⟩ hT4 ?_
            clear hK K
            try simp only [Act.put, List.setIfInBounds_toArray, List.set_cons_zero, List.set_cons_succ]
            refine wpF_exec 6 rfl (by kernel_rfl) (by rfl) ?_
            intro K hK
            refine op_store_msg rfl (g := p5) (m := goodM m) (h := hA) (by rfl) (by rfl) hZp5 rfl (fun hBp5 hx5 => ?_)
            generalize u4.setCells p5 0 ((goodM m).cells hA) = u5 at *
            have hs5 := hx5.size
            have hZp6 := hZp6.ext (msg_ne _ _) hx5 (fun e => by have e : p6 = p5 := e; omega)
            have hXA : Ext (far wd.heap.size u1.heap.size) u1 u5 := hXA.comp (hx5.mono (fun k _ e => far_of (by omega) k e))
            have hXB : Ext (far u1.heap.size u2.heap.size) u2 u5 := hXB.comp (hx5.mono (fun k _ e => far_of (by omega) k e))
            have hBS := hBS.ext (by simp [bls, goodM]) hx5 (fun e => by have e : gB = p5 := e; omega)
            have hE5 := hE4.fresh hx5 (by omega)
            have hT5 : ∀ k, looks [(0, fun z => Ext no w3 z), (2, fun z => Ext no w3 z)] k (u5) := looks_all ⟨hE5, hE5, trivial⟩
            refine hK _ _ (looks [(0, fun z => Ext no w3 z), (2, fun z => Ext no w3 z)]) ⟨.inr (.inl (by kernel_rfl)), .inr (.inl (by kernel_rfl)), trivial⟩ hT5 ?_
            clear hK K
            try simp only [Act.put, List.setIfInBounds_toArray, List.set_cons_zero, List.set_cons_succ]
            refine wpF_exec 7 rfl (by kernel_rfl) (by rfl) ?_
            intro K hK
            refine op_store_msg rfl (g := p6) (m := goodM m) (h := hB) (by rfl) (by rfl) hZp6 rfl (fun hBp6 hx6 => ?_)
            generalize u5.setCells p6 0 ((goodM m).cells hB) = u6 at *
            have hs6 := hx6.size
            have hBp5 := hBp5.ext (msg_ne _ _) hx6 (fun e => by have e : p5 = p6 := e; omega)
            have hXA : Ext (far wd.heap.size u1.heap.size) u1 u6 := hXA.comp (hx6.mono (fun k _ e => far_of (by omega) k e))
            have hXB : Ext (far u1.heap.size u2.heap.size) u2 u6 := hXB.comp (hx6.mono (fun k _ e => far_of (by omega) k e))
            have hBS := hBS.ext (by simp [bls, goodM]) hx6 (fun e => by have e : gB = p6 := e; omega)
            have hE6 := hE5.fresh hx6 (by omega)
            have hT6 : ∀ k, looks [(0, fun z => Ext no w3 z), (2, fun z => Ext no w3 z)] k (u6) := looks_all ⟨hE6, hE6, trivial⟩
            refine hK _ _ (looks [(0, fun z => Ext no w3 z), (2, fun z => Ext no w3 z)]) ⟨.inr (.inl (by kernel_rfl)), .inr (.inl (by kernel_rfl)), trivial⟩ hT6 ?_
            clear hK K
            try simp only [Act.put, List.setIfInBounds_toArray, List.set_cons_zero, List.set_cons_succ]
            refine wpF_done (by kernel_rfl) ?_ _
            go_wp2_with fail
            go_meet
            refine ⟨p5, p6, gB, hA, hB, rfl, rfl, ⟨hBp5, hBp6, hBS, hBb, by omega, by omega, by omega, by omega, by omega, by omega, hE6, fun S wz hz hk hm => ?_, fun S wz sb hz hk hsb hrb hm => ?_⟩⟩
            · exact hAk _ wz (hXA.comp (hz.mono (fun k _ hs => by have := hk k hs; show k < wd.heap.size ∨ u1.heap.size ≤ k; omega))) (fun k hk => hk) hm
            · exact hBs (fun k => k = gB ∨ far u1.heap.size u2.heap.size k) wz sb ((hXB.mono (fun k _ hs => .inr hs)).comp (hz.mono (fun k _ hs => by have := hk k hs; show k = gB ∨ k < u1.heap.size ∨ u2.heap.size ≤ k; omega))) (fun k hk => hk) hsb hrb hm
          · refine ⟨_, rfl, by rfl, ?_⟩
            intro K hK
            refine op_alloc_msg rfl (fun hZp6 => ?_)
            have hx3 := Ext.alloc no u2 (.cells (MsgR.zero.cells MsgA.zero).toArray 36)
            obtain ⟨p6, hp6⟩ : ∃ p, p = u2.heap.size := ⟨_, rfl⟩
            rw [← hp6] at hZp6 ⊢
            have hn3 : p6 ≤ u2.heap.size := by omega
            have hm3 : u2.heap.size ≤ p6 := by omega
            clear hp6
            generalize u2.alloc (.cells (MsgR.zero.cells MsgA.zero).toArray 36) = u3 at *
            have hl3 : p6 < u3.heap.size := hZp6.lt (msg_ne _ _)
            have hs3 := hx3.size
            have hXA : Ext (far wd.heap.size u1.heap.size) u1 u3 := hXA.comp (hx3.mono (fun _ _ h => h.elim))
            have hXB : Ext (far u1.heap.size u2.heap.size) u2 u3 := hXB.comp (hx3.mono (fun _ _ h => h.elim))
            have hBS := hBS.ext (by simp [bls, goodM]) hx3 (fun h => h)
            have hE3 := hE2.comp hx3
            have hT3 : ∀ k, looks [(0, fun z => Ext no w3 z), (2, fun z => Ext no w3 z)] k (u3) := looks_all ⟨hE3, hE3, trivial⟩
            refine hK _ _ (looks [(0, fun z => Ext no w3 z), (2, fun z => Ext no w3 z)]) ⟨.inr (.inr (fun x h => h)), .inr (.inr (fun x h => h)), trivial⟩ hT3 ?_
            clear hK K
            try simp only [Act.put, List.setIfInBounds_toArray, List.set_cons_zero, List.set_cons_succ]
            refine wpF_exec 4 rfl (by kernel_rfl) (by rfl) ?_
            intro K hK
            refine op_alloc_msg rfl (fun hZp5 => ?_)
            have hx4 := Ext.alloc no u3 (.cells (MsgR.zero.cells MsgA.zero).toArray 36)
            obtain ⟨p5, hp5⟩ : ∃ p, p = u3.heap.size := ⟨_, rfl⟩
            rw [← hp5] at hZp5 ⊢
            have hn4 : p5 ≤ u3.heap.size := by omega
            have hm4 : u3.heap.size ≤ p5 := by omega
            clear hp5
            generalize u3.alloc (.cells (MsgR.zero.cells MsgA.zero).toArray 36) = u4 at *
            have hl4 : p5 < u4.heap.size := hZp5.lt (msg_ne _ _)
            have hs4 := hx4.size
            have hZp6 := hZp6.ext (msg_ne _ _) hx4 (fun h => h)
            have hXA : Ext (far wd.heap.size u1.heap.size) u1 u4 := hXA.comp (hx4.mono (fun _ _ h => h.elim))
            have hXB : Ext (far u1.heap.size u2.heap.size) u2 u4 := hXB.comp (hx4.mono (fun _ _ h => h.elim))
            have hBS := hBS.ext (by simp [bls, goodM]) hx4 (fun h => h)
            have hE4 := hE3.comp hx4
            have hT4 : ∀ k, looks [(0, fun z => Ext no w3 z), (2, fun z => Ext no w3 z)] k (u4) := looks_all ⟨hE4, hE4, trivial⟩
            refine hK _ _ (looks [(0, fun z => Ext no w3 z), (2, fun z => Ext no w3 z)]) ⟨.inr (.inr (fun x h => h)), .inr (.inr (fun x h => h)), trivial⟩ hT4 ?_
            clear hK K
            try simp only [Act.put, List.setIfInBounds_toArray, List.set_cons_zero, List.set_cons_succ]
            refine wpF_exec 6 rfl (by kernel_rfl) (by rfl) ?_
            intro K hK
            refine op_store_msg rfl (g := p5) (m := goodM m) (h := hA) (by rfl) (by rfl) hZp5 rfl (fun hBp5 hx5 => ?_)
            generalize u4.setCells p5 0 ((goodM m).cells hA) = u5 at *
            have hs5 := hx5.size
            have hZp6 := hZp6.ext (msg_ne _ _) hx5 (fun e => by have e : p6 = p5 := e; omega)
            have hXA : Ext (far wd.heap.size u1.heap.size) u1 u5 := hXA.comp (hx5.mono (fun k _ e => far_of (by omega) k e))
            have hXB : Ext (far u1.heap.size u2.heap.size) u2 u5 := hXB.comp (hx5.mono (fun k _ e => far_of (by omega) k e))
            have hBS := hBS.ext (by simp [bls, goodM]) hx5 (fun e => by have e : gB = p5 := e; omega)
            have hE5 := hE4.fresh hx5 (by omega)
            have hT5 : ∀ k, looks [(0, fun z => Ext no w3 z), (2, fun z => Ext no w3 z)] k (u5) := looks_all ⟨hE5, hE5, trivial⟩
            refine hK _ _ (looks [(0, fun z => Ext no w3 z), (2, fun z => Ext no w3 z)]) ⟨.inr (.inl (by kernel_rfl)), .inr (.inl (by kernel_rfl)), trivial⟩ hT5 ?_
            clear hK K
            try simp only [Act.put, List.setIfInBounds_toArray, List.set_cons_zero, List.set_cons_succ]
            refine wpF_exec 7 rfl (by kernel_rfl) (by rfl) ?_
            intro K hK
            refine op_store_msg rfl (g := p6) (m := goodM m) (h := hB) (by rfl) (by rfl) hZp6 rfl (fun hBp6 hx6 => ?_)
            generalize u5.setCells p6 0 ((goodM m).cells hB) = u6 at *
            have hs6 := hx6.size
            have hBp5 := hBp5.ext (msg_ne _ _) hx6 (fun e => by have e : p5 = p6 := e; omega)
            have hXA : Ext (far wd.heap.size u1.heap.size) u1 u6 := hXA.comp (hx6.mono (fun k _ e => far_of (by omega) k e))
            have hXB : Ext (far u1.heap.size u2.heap.size) u2 u6 := hXB.comp (hx6.mono (fun k _ e => far_of (by omega) k e))
            have hBS := hBS.ext (by simp [bls, goodM]) hx6 (fun e => by have e : gB = p6 := e; omega)
            have hE6 := hE5.fresh hx6 (by omega)
            have hT6 : ∀ k, looks [(0, fun z => Ext no w3 z), (2, fun z => Ext no w3 z)] k (u6) := looks_all ⟨hE6, hE6, trivial⟩
            refine hK _ _ (looks [(0, fun z => Ext no w3 z), (2, fun z => Ext no w3 z)]) ⟨.inr (.inl (by kernel_rfl)), .inr (.inl (by kernel_rfl)), trivial⟩ hT6 ?_
            clear hK K
            try simp only [Act.put, List.setIfInBounds_toArray, List.set_cons_zero, List.set_cons_succ]
            refine wpF_done (by kernel_rfl) ?_ _
            go_wp2_with fail
            go_meet
            refine ⟨p5, p6, gB, hA, hB, rfl, rfl, ⟨hBp5, hBp6, hBS, hBb, by omega, by omega, by omega, by omega, by omega, by omega, hE6, fun S wz hz hk hm => ?_, fun S wz sb hz hk hsb hrb hm => ?_⟩⟩
            · exact hAk _ wz (hXA.comp (hz.mono (fun k _ hs => by have := hk k hs; show k < wd.heap.size ∨ u1.heap.size ≤ k; omega))) (fun k hk => hk) hm
            · exact hBs (fun k => k = gB ∨ far u1.heap.size u2.heap.size k) wz sb ((hXB.mono (fun k _ hs => .inr hs)).comp (hz.mono (fun k _ hs => by have := hk k hs; show k = gB ∨ k < u1.heap.size ∨ u2.heap.size ≤ k; omega))) (fun k hk => hk) hsb hrb hm
        · refine ⟨_, rfl, by rfl, ?_⟩
          intro K hK
          refine op_alloc_msg rfl (fun hZp5 => ?_)
          have hx2 := Ext.alloc no u1 (.cells (MsgR.zero.cells MsgA.zero).toArray 36)
          obtain ⟨p5, hp5⟩ : ∃ p, p = u1.heap.size := ⟨_, rfl⟩
          rw [← hp5] at hZp5 ⊢
          have hn2 : p5 ≤ u1.heap.size := by omega
          have hm2 : u1.heap.size ≤ p5 := by omega
          clear hp5
          generalize u1.alloc (.cells (MsgR.zero.cells MsgA.zero).toArray 36) = u2 at *
          have hl2 : p5 < u2.heap.size := hZp5.lt (msg_ne _ _)
          have hs2 := hx2.size
          have hXA : Ext (far wd.heap.size u1.heap.size) u1 u2 := hXA.comp (hx2.mono (fun _ _ h => h.elim))
          have hE2 := hE1.comp hx2
          have hT2 : ∀ k, looks [(0, fun z => Ext no w3 z), (2, fun z => Ext no w3 z)] k (u2) := looks_all ⟨hE2, hE2, trivial⟩
          refine hK _ _ (looks [(0, fun z => Ext no w3 z), (2, fun z => Ext no w3 z)]) ⟨.inr (.inr (fun x h => h)), .inr (.inr (fun x h => h)), trivial⟩ hT2 ?_
          clear hK K
          try simp only [Act.put, List.setIfInBounds_toArray, List.set_cons_zero, List.set_cons_succ]
          refine wpF_execs [3, 5] (by kernel_rfl) (by simp) ?_
          intro j hj
          simp only [List.mem_cons, List.not_mem_nil, or_false] at hj
          rcases hj with rfl | rfl
          · refine ⟨_, rfl, by rfl, ?_⟩
            intro K hK
            go_simp
            refine (wigood_any u2 m h (hin3.no hE2) hok).mono ?_
            rintro e u3 ⟨hB, rfl, hBin, hx3, ⟨gB, hBb, hBl, hBS, hBlt, hBs⟩, hBk⟩
            clear hBk hBin
            have hs3 := hx3.size
            have hZp5 := hZp5.ext (msg_ne _ _) hx3 (fun h => h)
            have hXA : Ext (far wd.heap.size u1.heap.size) u1 u3 := hXA.comp (hx3.mono (fun _ _ h => h.elim))
            have hXB : Ext (far u2.heap.size u3.heap.size) u3 u3 := Ext.refl _ _
            have hE3 := hE2.comp hx3
            have hT3 : ∀ k, looks [(0, fun z => Ext no w3 z), (2, fun z => Ext no w3 z)] k (u3) := looks_all ⟨hE3, hE3, trivial⟩
            refine hK _ _ (looks [(0, fun z => Ext no w3 z), (2, fun z => Ext no w3 z)]) ⟨.inr (.inl (by kernel_rfl)), .inr (.inl (by kernel_rfl)), trivial⟩ hT3 ?_
            clear hK K
            try simp only [Act.put, List.setIfInBounds_toArray, List.set_cons_zero, List.set_cons_succ]
            refine wpF_exec 5 rfl (by kernel_rfl) (by rfl) ?_
            intro K hK
            refine op_alloc_msg rfl (fun hZp6 => ?_)
            have hx4 := Ext.alloc no u3 (.cells (MsgR.zero.cells MsgA.zero).toArray 36)
            obtain ⟨p6, hp6⟩ : ∃ p, p = u3.heap.size := ⟨_, rfl⟩
            rw [← hp6] at hZp6 ⊢
            have hn4 : p6 ≤ u3.heap.size := by omega
            have hm4 : u3.heap.size ≤ p6 := by omega
            clear hp6
            generalize u3.alloc (.cells (MsgR.zero.cells MsgA.zero).toArray 36) = u4 at *
            have hl4 : p6 < u4.heap.size := hZp6.lt (msg_ne _ _)
            have hs4 := hx4.size
            have hZp5 := hZp5.ext (msg_ne _ _) hx4 (fun h => h)
            have hXA : Ext (far wd.heap.size u1.heap.size) u1 u4 := hXA.comp (hx4.mono (fun _ _ h => h.elim))
            have hXB : Ext (far u2.heap.size u3.heap.size) u3 u4 := hXB.comp (hx4.mono (fun _ _ h => h.elim))
            have hBS := hBS.ext (by simp [bls, goodM]) hx4 (fun h => h)
            have hE4 := hE3.comp hx4
            have hT4 : ∀ k, looks [(0, fun z => Ext no w3 z), (2, fun z => Ext no w3 z)] k (u4) := looks_all ⟨hE4, hE4, trivial⟩
            refine hK _ _ (looks [(0, fun z => Ext no w3 z), (2, fun z => Ext no w3 z)]) ⟨.inr (.inr (fun x h => h)), .inr (.inr (fun x h => h)), trivial⟩ hT4 ?_
            clear hK K
            try simp only [Act.put, List.setIfInBounds_toArray, List.set_cons_zero, List.set_cons_succ]
            refine wpF_exec 6 rfl (by kernel_rfl) (by rfl) ?_
            intro K hK
            refine op_store_msg rfl (g := p5) (m := goodM m) (h := hA) (by rfl) (by rfl) hZp5 rfl (fun hBp5 hx5 => ?_)
            generalize u4.setCells p5 0 ((goodM m).cells hA) = u5 at *
            have hs5 := hx5.size
            have hZp6 := hZp6.ext (msg_ne _ _) hx5 (fun e => by have e : p6 = p5 := e; omega)
            have hXA : Ext (far wd.heap.size u1.heap.size) u1 u5 := hXA.comp (hx5.mono (fun k _ e => far_of (by omega) k e))
            have hXB : Ext (far u2.heap.size u3.heap.size) u3 u5 := hXB.comp (hx5.mono (fun k _ e => far_of (by omega) k e))
            have hBS := hBS.ext (by simp [bls, goodM]) hx5 (fun e => by have e : gB = p5 := e; omega)
            have hE5 := hE4.fresh hx5 (by omega)
            have hT5 : ∀ k, looks [(0, fun z => Ext no w3 z), (2, fun z => Ext no w3 z)] k (u5) := looks_all ⟨hE5, hE5, trivial⟩
            refine hK _ _ (looks [(0, fun z => Ext no w3 z), (2, fun z => Ext no w3 z)]) ⟨.inr (.inl (by kernel_rfl)), .inr (.inl (by kernel_rfl)), trivial⟩ hT5 ?_
            clear hK K
            try simp only [Act.put, List.setIfInBounds_toArray, List.set_cons_zero, List.set_cons_succ]
            refine wpF_exec 7 rfl (by kernel_rfl) (by rfl) ?_
            intro K hK
            refine op_store_msg rfl (g := p6) (m := goodM m) (h := hB) (by rfl) (by rfl) hZp6 rfl (fun hBp6 hx6 => ?_)
            generalize u5.setCells p6 0 ((goodM m).cells hB) = u6 at *
            have hs6 := hx6.size
            have hBp5 := hBp5.ext (msg_ne _ _) hx6 (fun e => by have e : p5 = p6 := e; omega)
            have hXA : Ext (far wd.heap.size u1.heap.size) u1 u6 := hXA.comp (hx6.mono (fun k _ e => far_of (by omega) k e))
            have hXB : Ext (far u2.heap.size u3.heap.size) u3 u6 := hXB.comp (hx6.mono (fun k _ e => far_of (by omega) k e))
            have hBS := hBS.ext (by simp [bls, goodM]) hx6 (fun e => by have e : gB = p6 := e; omega)
            have hE6 := hE5.fresh hx6 (by omega)
            have hT6 : ∀ k, looks [(0, fun z => Ext no w3 z), (2, fun z => Ext no w3 z)] k (u6) := looks_all ⟨hE6, hE6, trivial⟩
            refine hK _ _ (looks [(0, fun z => Ext no w3 z), (2, fun z => Ext no w3 z)]) ⟨.inr (.inl (by kernel_rfl)), .inr (.inl (by kernel_rfl)), trivial⟩ hT6 ?_
            clear hK K
            try simp only [Act.put, List.setIfInBounds_toArray, List.set_cons_zero, List.set_cons_succ]
            refine wpF_done (by kernel_rfl) ?_ _
            go_wp2_with fail
            go_meet
            refine ⟨p5, p6, gB, hA, hB, rfl, rfl, ⟨hBp5, hBp6, hBS, hBb, by omega, by omega, by omega, by omega, by omega, by omega, hE6, fun S wz hz hk hm => ?_, fun S wz sb hz hk hsb hrb hm => ?_⟩⟩
            · exact hAk _ wz (hXA.comp (hz.mono (fun k _ hs => by have := hk k hs; show k < wd.heap.size ∨ u1.heap.size ≤ k; omega))) (fun k hk => hk) hm
            · exact hBs (fun k => k = gB ∨ far u2.heap.size u3.heap.size k) wz sb ((hXB.mono (fun k _ hs => .inr hs)).comp (hz.mono (fun k _ hs => by have := hk k hs; show k = gB ∨ k < u2.heap.size ∨ u3.heap.size ≤ k; omega))) (fun k hk => hk) hsb hrb hm
          · refine ⟨_, rfl, by rfl, ?_⟩
            intro K hK
            refine op_alloc_msg rfl (fun hZp6 => ?_)
            have hx3 := Ext.alloc no u2 (.cells (MsgR.zero.cells MsgA.zero).toArray 36)
            obtain ⟨p6, hp6⟩ : ∃ p, p = u2.heap.size := ⟨_, rfl⟩
            rw [← hp6] at hZp6 ⊢
            have hn3 : p6 ≤ u2.heap.size := by omega
            have hm3 : u2.heap.size ≤ p6 := by omega
            clear hp6
            generalize u2.alloc (.cells (MsgR.zero.cells MsgA.zero).toArray 36) = u3 at *
            have hl3 : p6 < u3.heap.size := hZp6.lt (msg_ne _ _)
            have hs3 := hx3.size
            have hZp5 := hZp5.ext (msg_ne _ _) hx3 (fun h => h)
            have hXA : Ext (far wd.heap.size u1.heap.size) u1 u3 := hXA.comp (hx3.mono (fun _ _ h => h.elim))
            have hE3 := hE2.comp hx3
            have hT3 : ∀ k, looks [(0, fun z => Ext no w3 z), (2, fun z => Ext no w3 z)] k (u3) := looks_all ⟨hE3, hE3, trivial⟩
            refine hK _ _ (looks [(0, fun z => Ext no w3 z), (2, fun z => Ext no w3 z)]) ⟨.inr (.inr (fun x h => h)), .inr (.inr (fun x h => h)), trivial⟩ hT3 ?_
            clear hK K
            try simp only [Act.put, List.setIfInBounds_toArray, List.set_cons_zero, List.set_cons_succ]
            refine wpF_exec 3 rfl (by kernel_rfl) (by rfl) ?_
            intro K hK
            go_simp
            refine (wigood_any u3 m h (hin3.no hE3) hok).mono ?_
            rintro e u4 ⟨hB, rfl, hBin, hx4, ⟨gB, hBb, hBl, hBS, hBlt, hBs⟩, hBk⟩
            clear hBk hBin
            have hs4 := hx4.size
            have hZp5 := hZp5.ext (msg_ne _ _) hx4 (fun h => h)
            have hZp6 := hZp6.ext (msg_ne _ _) hx4 (fun h => h)
            have hXA : Ext (far wd.heap.size u1.heap.size) u1 u4 := hXA.comp (hx4.mono (fun _ _ h => h.elim))
            have hXB : Ext (far u3.heap.size u4.heap.size) u4 u4 := Ext.refl _ _
            have hE4 := hE3.comp hx4
            have hT4 : ∀ k, looks [(0, fun z => Ext no w3 z), (2, fun z => Ext no w3 z)] k (u4) := looks_all ⟨hE4, hE4, trivial⟩
            refine hK _ _ (looks [(0, fun z => Ext no w3 z), (2, fun z => Ext no w3 z)]) ⟨.inr (.inl (by kernel_rfl)), .inr (.inl (by kernel_rfl)), trivial⟩ hT4 ?_
            clear hK K
            try simp only [Act.put, List.setIfInBounds_toArray, List.set_cons_zero, List.set_cons_succ]
            refine wpF_exec 6 rfl (by kernel_rfl) (by rfl) ?_
            intro K hK
            refine op_store_msg rfl (g := p5) (m := goodM m) (h := hA) (by rfl) (by rfl) hZp5 rfl (fun hBp5 hx5 => ?_)
            generalize u4.setCells p5 0 ((goodM m).cells hA) = u5 at *
            have hs5 := hx5.size
            have hZp6 := hZp6.ext (msg_ne _ _) hx5 (fun e => by have e : p6 = p5 := e; omega)
            have hXA : Ext (far wd.heap.size u1.heap.size) u1 u5 := hXA.comp (hx5.mono (fun k _ e => far_of (by omega) k e))
            have hXB : Ext (far u3.heap.size u4.heap.size) u4 u5 := hXB.comp (hx5.mono (fun k _ e => far_of (by omega) k e))
            have hBS := hBS.ext (by simp [bls, goodM]) hx5 (fun e => by have e : gB = p5 := e; omega)
            have hE5 := hE4.fresh hx5 (by omega)
            have hT5 : ∀ k, looks [(0, fun z => Ext no w3 z), (2, fun z => Ext no w3 z)] k (u5) := looks_all ⟨hE5, hE5, trivial⟩
            refine hK _ _ (looks [(0, fun z => Ext no w3 z), (2, fun z => Ext no w3 z)]) ⟨.inr (.inl (by kernel_rfl)), .inr (.inl (by kernel_rfl)), trivial⟩ hT5 ?_
            clear hK K
            try simp only [Act.put, List.setIfInBounds_toArray, List.set_cons_zero, List.set_cons_succ]
            refine wpF_exec 7 rfl (by kernel_rfl) (by rfl) ?_
            intro K hK
            refine op_store_msg rfl (g := p6) (m := goodM m) (h := hB) (by rfl) (by rfl) hZp6 rfl (fun hBp6 hx6 => ?_)
            generalize u5.setCells p6 0 ((goodM m).cells hB) = u6 at *
            have hs6 := hx6.size
            have hBp5 := hBp5.ext (msg_ne _ _) hx6 (fun e => by have e : p5 = p6 := e; omega)
            have hXA : Ext (far wd.heap.size u1.heap.size) u1 u6 := hXA.comp (hx6.mono (fun k _ e => far_of (by omega) k e))
            have hXB : Ext (far u3.heap.size u4.heap.size) u4 u6 := hXB.comp (hx6.mono (fun k _ e => far_of (by omega) k e))
            have hBS := hBS.ext (by simp [bls, goodM]) hx6 (fun e => by have e : gB = p6 := e; omega)
            have hE6 := hE5.fresh hx6 (by omega)
            have hT6 : ∀ k, looks [(0, fun z => Ext no w3 z), (2, fun z => Ext no w3 z)] k (u6) := looks_all ⟨hE6, hE6, trivial⟩
            refine hK _ _ (looks [(0, fun z => Ext no w3 z), (2, fun z => Ext no w3 z)]) ⟨.inr (.inl (by kernel_rfl)), .inr (.inl (by kernel_rfl)), trivial⟩ hT6 ?_
            clear hK K
            try simp only [Act.put, List.setIfInBounds_toArray, List.set_cons_zero, List.set_cons_succ]
            refine wpF_done (by kernel_rfl) ?_ _
            go_wp2_with fail
            go_meet
            refine ⟨p5, p6, gB, hA, hB, rfl, rfl, ⟨hBp5, hBp6, hBS, hBb, by omega, by omega, by omega, by omega, by omega, by omega, hE6, fun S wz hz hk hm => ?_, fun S wz sb hz hk hsb hrb hm => ?_⟩⟩
            · exact hAk _ wz (hXA.comp (hz.mono (fun k _ hs => by have := hk k hs; show k < wd.heap.size ∨ u1.heap.size ≤ k; omega))) (fun k hk => hk) hm
            · exact hBs (fun k => k = gB ∨ far u3.heap.size u4.heap.size k) wz sb ((hXB.mono (fun k _ hs => .inr hs)).comp (hz.mono (fun k _ hs => by have := hk k hs; show k = gB ∨ k < u3.heap.size ∨ u4.heap.size ≤ k; omega))) (fun k hk => hk) hsb hrb hm
        · refine ⟨_, rfl, by rfl, ?_⟩
          intro K hK
          refine op_alloc_msg rfl (fun hZp6 => ?_)
          have hx2 := Ext.alloc no u1 (.cells (MsgR.zero.cells MsgA.zero).toArray 36)
          obtain ⟨p6, hp6⟩ : ∃ p, p = u1.heap.size := ⟨_, rfl⟩
          rw [← hp6] at hZp6 ⊢
          have hn2 : p6 ≤ u1.heap.size := by omega
          have hm2 : u1.heap.size ≤ p6 := by omega
          clear hp6
          generalize u1.alloc (.cells (MsgR.zero.cells MsgA.zero).toArray 36) = u2 at *
          have hl2 : p6 < u2.heap.size := hZp6.lt (msg_ne _ _)
          have hs2 := hx2.size
          have hXA : Ext (far wd.heap.size u1.heap.size) u1 u2 := hXA.comp (hx2.mono (fun _ _ h => h.elim))
          have hE2 := hE1.comp hx2
          have hT2 : ∀ k, looks [(0, fun z => Ext no w3 z), (2, fun z => Ext no w3 z)] k (u2) := looks_all ⟨hE2, hE2, trivial⟩
          refine hK _ _ (looks [(0, fun z => Ext no w3 z), (2, fun z => Ext no w3 z)]) ⟨.inr (.inr (fun x h => h)), .inr (.inr (fun x h => h)), trivial⟩ hT2 ?_
          clear hK K
          try simp only [Act.put, List.setIfInBounds_toArray, List.set_cons_zero, List.set_cons_succ]
          refine wpF_execs [3, 4] (by kernel_rfl) (by simp) ?_
          intro j hj
          simp only [List.mem_cons, List.not_mem_nil, or_false] at hj
          rcases hj with rfl | rfl
          · refine ⟨_, rfl, by rfl, ?_⟩
            intro K hK
            go_simp
            refine (wigood_any u2 m h (hin3.no hE2) hok).mono ?_
            rintro e u3 ⟨hB, rfl, hBin, hx3, ⟨gB, hBb, hBl, hBS, hBlt, hBs⟩, hBk⟩
            clear hBk hBin
            have hs3 := hx3.size
            have hZp6 := hZp6.ext (msg_ne _ _) hx3 (fun h => h)
            have hXA : Ext (far wd.heap.size u1.heap.size) u1 u3 := hXA.comp (hx3.mono (fun _ _ h => h.elim))
            have hXB : Ext (far u2.heap.size u3.heap.size) u3 u3 := Ext.refl _ _
            have hE3 := hE2.comp hx3
            have hT3 : ∀ k, looks [(0, fun z => Ext no w3 z), (2, fun z => Ext no w3 z)] k (u3) := looks_all ⟨hE3, hE3, trivial⟩
            refine hK _ _ (looks [(0, fun z => Ext no w3 z), (2, fun z => Ext no w3 z)]) ⟨.inr (.inl (by kernel_rfl)), .inr (.inl (by kernel_rfl)), trivial⟩ hT3 ?_
            clear hK K
            try simp only [Act.put, List.setIfInBounds_toArray, List.set_cons_zero, List.set_cons_succ]
            refine wpF_exec 4 rfl (by kernel_rfl) (by rfl) ?_
            intro K hK
            refine op_alloc_msg rfl (fun hZp5 => ?_)
            have hx4 := Ext.alloc no u3 (.cells (MsgR.zero.cells MsgA.zero).toArray 36)
            obtain ⟨p5, hp5⟩ : ∃ p, p = u3.heap.size := ⟨_, rfl⟩
            rw [← hp5] at hZp5 ⊢
            have hn4 : p5 ≤ u3.heap.size := by omega
            have hm4 : u3.heap.size ≤ p5 := by omega
            clear hp5
            generalize u3.alloc (.cells (MsgR.zero.cells MsgA.zero).toArray 36) = u4 at *
            have hl4 : p5 < u4.heap.size := hZp5.lt (msg_ne _ _)
            have hs4 := hx4.size
            have hZp6 := hZp6.ext (msg_ne _ _) hx4 (fun h => h)
            have hXA : Ext (far wd.heap.size u1.heap.size) u1 u4 := hXA.comp (hx4.mono (fun _ _ h => h.elim))
            have hXB : Ext (far u2.heap.size u3.heap.size) u3 u4 := hXB.comp (hx4.mono (fun _ _ h => h.elim))
            have hBS := hBS.ext (by simp [bls, goodM]) hx4 (fun h => h)
            have hE4 := hE3.comp hx4
            have hT4 : ∀ k, looks [(0, fun z => Ext no w3 z), (2, fun z => Ext no w3 z)] k (u4) := looks_all ⟨hE4, hE4, trivial⟩
            refine hK _ _ (looks [(0, fun z => Ext no w3 z), (2, fun z => Ext no w3 z)]) ⟨.inr (.inr (fun x h => h)), .inr (.inr (fun x h => h)), trivial⟩ hT4 ?_
            clear hK K
            try simp only [Act.put, List.setIfInBounds_toArray, List.set_cons_zero, List.set_cons_succ]
            refine wpF_exec 6 rfl (by kernel_rfl) (by rfl) ?_
            intro K hK
            refine op_store_msg rfl (g := p5) (m := goodM m) (h := hA) (by rfl) (by rfl) hZp5 rfl (fun hBp5 hx5 => ?_)
            generalize u4.setCells p5 0 ((goodM m).cells hA) = u5 at *
            have hs5 := hx5.size
            have hZp6 := hZp6.ext (msg_ne _ _) hx5 (fun e => by have e : p6 = p5 := e; omega)
            have hXA : Ext (far wd.heap.size u1.heap.size) u1 u5 := hXA.comp (hx5.mono (fun k _ e => far_of (by omega) k e))
            have hXB : Ext (far u2.heap.size u3.heap.size) u3 u5 := hXB.comp (hx5.mono (fun k _ e => far_of (by omega) k e))
            have hBS := hBS.ext (by simp [bls, goodM]) hx5 (fun e => by have e : gB = p5 := e; omega)
            have hE5 := hE4.fresh hx5 (by omega)
            have hT5 : ∀ k, looks [(0, fun z => Ext no w3 z), (2, fun z => Ext no w3 z)] k (u5) := looks_all ⟨hE5, hE5, trivial⟩
            refine hK _ _ (looks [(0, fun z => Ext no w3 z), (2, fun z => Ext no w3 z)]) ⟨.inr (.inl (by kernel_rfl)), .inr (.inl (by kernel_rfl)), trivial⟩ hT5 ?_
            clear hK K
            try simp only [Act.put, List.setIfInBounds_toArray, List.set_cons_zero, List.set_cons_succ]
            refine wpF_exec 7 rfl (by kernel_rfl) (by rfl) ?_
            intro K hK
            refine op_store_msg rfl (g := p6) (m := goodM m) (h := hB) (by rfl) (by rfl) hZp6 rfl (fun hBp6 hx6 => ?_)
            generalize u5.setCells p6 0 ((goodM m).cells hB) = u6 at *
            have hs6 := hx6.size
            have hBp5 := hBp5.ext (msg_ne _ _) hx6 (fun e => by have e : p5 = p6 := e; omega)
            have hXA : Ext (far wd.heap.size u1.heap.size) u1 u6 := hXA.comp (hx6.mono (fun k _ e => far_of (by omega) k e))
            have hXB : Ext (far u2.heap.size u3.heap.size) u3 u6 := hXB.comp (hx6.mono (fun k _ e => far_of (by omega) k e))
            have hBS := hBS.ext (by simp [bls, goodM]) hx6 (fun e => by have e : gB = p6 := e; omega)
            have hE6 := hE5.fresh hx6 (by omega)
            have hT6 : ∀ k, looks [(0, fun z => Ext no w3 z), (2, fun z => Ext no w3 z)] k (u6) := looks_all ⟨hE6, hE6, trivial⟩
            refine hK _ _ (looks [(0, fun z => Ext no w3 z), (2, fun z => Ext no w3 z)]) ⟨.inr (.inl (by kernel_rfl)), .inr (.inl (by kernel_rfl)), trivial⟩ hT6 ?_
            clear hK K
            try simp only [Act.put, List.setIfInBounds_toArray, List.set_cons_zero, List.set_cons_succ]
            refine wpF_done (by kernel_rfl) ?_ _
            go_wp2_with fail
            go_meet
            refine ⟨p5, p6, gB, hA, hB, rfl, rfl, ⟨hBp5, hBp6, hBS, hBb, by omega, by omega, by omega, by omega, by omega, by omega, hE6, fun S wz hz hk hm => ?_, fun S wz sb hz hk hsb hrb hm => ?_⟩⟩
            · exact hAk _ wz (hXA.comp (hz.mono (fun k _ hs => by have := hk k hs; show k < wd.heap.size ∨ u1.heap.size ≤ k; omega))) (fun k hk => hk) hm
            · exact hBs (fun k => k = gB ∨ far u2.heap.size u3.heap.size k) wz sb ((hXB.mono (fun k _ hs => .inr hs)).comp (hz.mono (fun k _ hs => by have := hk k hs; show k = gB ∨ k < u2.heap.size ∨ u3.heap.size ≤ k; omega))) (fun k hk => hk) hsb hrb hm
          · refine ⟨_, rfl, by rfl, ?_⟩
            intro K hK
            refine op_alloc_msg rfl (fun hZp5 => ?_)
            have hx3 := Ext.alloc no u2 (.cells (MsgR.zero.cells MsgA.zero).toArray 36)
            obtain ⟨p5, hp5⟩ : ∃ p, p = u2.heap.size := ⟨_, rfl⟩
            rw [← hp5] at hZp5 ⊢
            have hn3 : p5 ≤ u2.heap.size := by omega
            have hm3 : u2.heap.size ≤ p5 := by omega
            clear hp5
            generalize u2.alloc (.cells (MsgR.zero.cells MsgA.zero).toArray 36) = u3 at *
            have hl3 : p5 < u3.heap.size := hZp5.lt (msg_ne _ _)
            have hs3 := hx3.size
            have hZp6 := hZp6.ext (msg_ne _ _) hx3 (fun h => h)
            have hXA : Ext (far wd.heap.size u1.heap.size) u1 u3 := hXA.comp (hx3.mono (fun _ _ h => h.elim))
            have hE3 := hE2.comp hx3
            have hT3 : ∀ k, looks [(0, fun z => Ext no w3 z), (2, fun z => Ext no w3 z)] k (u3) := looks_all ⟨hE3, hE3, trivial⟩
            refine hK _ _ (looks [(0, fun z => Ext no w3 z), (2, fun z => Ext no w3 z)]) ⟨.inr (.inr (fun x h => h)), .inr (.inr (fun x h => h)), trivial⟩ hT3 ?_
            clear hK K
            try simp only [Act.put, List.setIfInBounds_toArray, List.set_cons_zero, List.set_cons_succ]
            refine wpF_exec 3 rfl (by kernel_rfl) (by rfl) ?_
            intro K hK
            go_simp
            refine (wigood_any u3 m h (hin3.no hE3) hok).mono ?_
            rintro e u4 ⟨hB, rfl, hBin, hx4, ⟨gB, hBb, hBl, hBS, hBlt, hBs⟩, hBk⟩
            clear hBk hBin
            have hs4 := hx4.size
            have hZp5 := hZp5.ext (msg_ne _ _) hx4 (fun h => h)
            have hZp6 := hZp6.ext (msg_ne _ _) hx4 (fun h => h)
            have hXA : Ext (far wd.heap.size u1.heap.size) u1 u4 := hXA.comp (hx4.mono (fun _ _ h => h.elim))
            have hXB : Ext (far u3.heap.size u4.heap.size) u4 u4 := Ext.refl _ _
            have hE4 := hE3.comp hx4
            have hT4 : ∀ k, looks [(0, fun z => Ext no w3 z), (2, fun z => Ext no w3 z)] k (u4) := looks_all ⟨hE4, hE4, trivial⟩
            refine hK _ _ (looks [(0, fun z => Ext no w3 z), (2, fun z => Ext no w3 z)]) ⟨.inr (.inl (by kernel_rfl)), .inr (.inl (by kernel_rfl)), trivial⟩ hT4 ?_
            clear hK K
            try simp only [Act.put, List.setIfInBounds_toArray, List.set_cons_zero, List.set_cons_succ]
            refine wpF_exec 6 rfl (by kernel_rfl) (by rfl) ?_
            intro K hK
            refine op_store_msg rfl (g := p5) (m := goodM m) (h := hA) (by rfl) (by rfl) hZp5 rfl (fun hBp5 hx5 => ?_)
            generalize u4.setCells p5 0 ((goodM m).cells hA) = u5 at *
            have hs5 := hx5.size
            have hZp6 := hZp6.ext (msg_ne _ _) hx5 (fun e => by have e : p6 = p5 := e; omega)
            have hXA : Ext (far wd.heap.size u1.heap.size) u1 u5 := hXA.comp (hx5.mono (fun k _ e => far_of (by omega) k e))
            have hXB : Ext (far u3.heap.size u4.heap.size) u4 u5 := hXB.comp (hx5.mono (fun k _ e => far_of (by omega) k e))
            have hBS := hBS.ext (by simp [bls, goodM]) hx5 (fun e => by have e : gB = p5 := e; omega)
            have hE5 := hE4.fresh hx5 (by omega)
            have hT5 : ∀ k, looks [(0, fun z => Ext no w3 z), (2, fun z => Ext no w3 z)] k (u5) := looks_all ⟨hE5, hE5, trivial⟩
            refine hK _ _ (looks [(0, fun z => Ext no w3 z), (2, fun z => Ext no w3 z)]) ⟨.inr (.inl (by kernel_rfl)), .inr (.inl (by kernel_rfl)), trivial⟩ hT5 ?_
            clear hK K
            try simp only [Act.put, List.setIfInBounds_toArray, List.set_cons_zero, List.set_cons_succ]
            refine wpF_exec 7 rfl (by kernel_rfl) (by rfl) ?_
            intro K hK
            refine op_store_msg rfl (g := p6) (m := goodM m) (h := hB) (by rfl) (by rfl) hZp6 rfl (fun hBp6 hx6 => ?_)
            generalize u5.setCells p6 0 ((goodM m).cells hB) = u6 at *
            have hs6 := hx6.size
            have hBp5 := hBp5.ext (msg_ne _ _) hx6 (fun e => by have e : p5 = p6 := e; omega)
            have hXA : Ext (far wd.heap.size u1.heap.size) u1 u6 := hXA.comp (hx6.mono (fun k _ e => far_of (by omega) k e))
            have hXB : Ext (far u3.heap.size u4.heap.size) u4 u6 := hXB.comp (hx6.mono (fun k _ e => far_of (by omega) k e))
            have hBS := hBS.ext (by simp [bls, goodM]) hx6 (fun e => by have e : gB = p6 := e; omega)
            have hE6 := hE5.fresh hx6 (by omega)
            have hT6 : ∀ k, looks [(0, fun z => Ext no w3 z), (2, fun z => Ext no w3 z)] k (u6) := looks_all ⟨hE6, hE6, trivial⟩
            refine hK _ _ (looks [(0, fun z => Ext no w3 z), (2, fun z => Ext no w3 z)]) ⟨.inr (.inl (by kernel_rfl)), .inr (.inl (by kernel_rfl)), trivial⟩ hT6 ?_
            clear hK K
            try simp only [Act.put, List.setIfInBounds_toArray, List.set_cons_zero, List.set_cons_succ]
            refine wpF_done (by kernel_rfl) ?_ _
            go_wp2_with fail
            go_meet
            refine ⟨p5, p6, gB, hA, hB, rfl, rfl, ⟨hBp5, hBp6, hBS, hBb, by omega, by omega, by omega, by omega, by omega, by omega, hE6, fun S wz hz hk hm => ?_, fun S wz sb hz hk hsb hrb hm => ?_⟩⟩
            · exact hAk _ wz (hXA.comp (hz.mono (fun k _ hs => by have := hk k hs; show k < wd.heap.size ∨ u1.heap.size ≤ k; omega))) (fun k hk => hk) hm
            · exact hBs (fun k => k = gB ∨ far u3.heap.size u4.heap.size k) wz sb ((hXB.mono (fun k _ hs => .inr hs)).comp (hz.mono (fun k _ hs => by have := hk k hs; show k = gB ∨ k < u3.heap.size ∨ u4.heap.size ≤ k; omega))) (fun k hk => hk) hsb hrb hm
      · refine ⟨_, rfl, by rfl, ?_⟩
        intro K hK
        refine op_alloc_msg rfl (fun hZp5 => ?_)
        have hx1 := Ext.alloc no wd (.cells (MsgR.zero.cells MsgA.zero).toArray 36)
        obtain ⟨p5, hp5⟩ : ∃ p, p = wd.heap.size := ⟨_, rfl⟩
        rw [← hp5] at hZp5 ⊢
        have hn1 : p5 ≤ wd.heap.size := by omega
        have hm1 : wd.heap.size ≤ p5 := by omega
        clear hp5
        generalize wd.alloc (.cells (MsgR.zero.cells MsgA.zero).toArray 36) = u1 at *
        have hl1 : p5 < u1.heap.size := hZp5.lt (msg_ne _ _)
        have hs1 := hx1.size
        have hE1 := hE0.comp hx1
        have hT1 : ∀ k, looks [(0, fun z => Ext no w3 z), (2, fun z => Ext no w3 z)] k (u1) := looks_all ⟨hE1, hE1, trivial⟩
        refine hK _ _ (looks [(0, fun z => Ext no w3 z), (2, fun z => Ext no w3 z)]) ⟨.inr (.inr (fun x h => h)), .inr (.inr (fun x h => h)), trivial⟩ hT1 ?_
        clear hK K
        try simp only [Act.put, List.setIfInBounds_toArray, List.set_cons_zero, List.set_cons_succ]
        refine wpF_execs [1, 5] (by kernel_rfl) (by simp) ?_
        intro j hj
        simp only [List.mem_cons, List.not_mem_nil, or_false] at hj
        rcases hj with rfl | rfl
        · refine ⟨_, rfl, by rfl, ?_⟩
          intro K hK
          go_simp
          refine (wigood_any u1 m h (hin3.no hE1) hok).mono ?_
          rintro e u2 ⟨hA, rfl, hAin, hx2, hAg, hAk⟩
          clear hAg hAin
          have hs2 := hx2.size
          have hZp5 := hZp5.ext (msg_ne _ _) hx2 (fun h => h)
          have hXA : Ext (far u1.heap.size u2.heap.size) u2 u2 := Ext.refl _ _
          have hE2 := hE1.comp hx2
          have hT2 : ∀ k, looks [(0, fun z => Ext no w3 z), (2, fun z => Ext no w3 z)] k (u2) := looks_all ⟨hE2, hE2, trivial⟩
          refine hK _ _ (looks [(0, fun z => Ext no w3 z), (2, fun z => Ext no w3 z)]) ⟨.inr (.inl (by kernel_rfl)), .inr (.inr (fun x h => h)), trivial⟩ hT2 ?_
          clear hK K
          try simp only [Act.put, List.setIfInBounds_toArray, List.set_cons_zero, List.set_cons_succ]
          refine wpF_execs [3, 5] (by kernel_rfl) (by simp) ?_
          intro j hj
          simp only [List.mem_cons, List.not_mem_nil, or_false] at hj
          rcases hj with rfl | rfl
          · refine ⟨_, rfl, by rfl, ?_⟩
            intro K hK
            go_simp
            refine (wigood_any u2 m h (hin3.no hE2) hok).mono ?_
            rintro e u3 ⟨hB, rfl, hBin, hx3, ⟨gB, hBb, hBl, hBS, hBlt, hBs⟩, hBk⟩
            clear hBk hBin
            have hs3 := hx3.size
            have hZp5 := hZp5.ext (msg_ne _ _) hx3 (fun h => h)
            have hXA : Ext (far u1.heap.size u2.heap.size) u2 u3 := hXA.comp (hx3.mono (fun _ _ h => h.elim))
            have hXB : Ext (far u2.heap.size u3.heap.size) u3 u3 := Ext.refl _ _
            have hE3 := hE2.comp hx3
            have hT3 : ∀ k, looks [(0, fun z => Ext no w3 z), (2, fun z => Ext no w3 z)] k (u3) := looks_all ⟨hE3, hE3, trivial⟩
            refine hK _ _ (looks [(0, fun z => Ext no w3 z), (2, fun z => Ext no w3 z)]) ⟨.inr (.inl (by kernel_rfl)), .inr (.inl (by kernel_rfl)), trivial⟩ hT3 ?_
            clear hK K
            try simp only [Act.put, List.setIfInBounds_toArray, List.set_cons_zero, List.set_cons_succ]
            refine wpF_exec 5 rfl (by kernel_rfl) (by rfl) ?_
            intro K hK
            refine op_alloc_msg rfl (fun hZp6 => ?_)
            have hx4 := Ext.alloc no u3 (.cells (MsgR.zero.cells MsgA.zero).toArray 36)
            obtain ⟨p6, hp6⟩ : ∃ p, p = u3.heap.size := ⟨_, rfl⟩
            rw [← hp6] at hZp6 ⊢
            have hn4 : p6 ≤ u3.heap.size := by omega
            have hm4 : u3.heap.size ≤ p6 := by omega
            clear hp6
            generalize u3.alloc (.cells (MsgR.zero.cells MsgA.zero).toArray 36) = u4 at *
            have hl4 : p6 < u4.heap.size := hZp6.lt (msg_ne _ _)
            have hs4 := hx4.size
            have hZp5 := hZp5.ext (msg_ne _ _) hx4 (fun h => h)
            have hXA : Ext (far u1.heap.size u2.heap.size) u2 u4 := hXA.comp (hx4.mono (fun _ _ h => h.elim))
            have hXB : Ext (far u2.heap.size u3.heap.size) u3 u4 := hXB.comp (hx4.mono (fun _ _ h => h.elim))
            have hBS := hBS.ext (by simp [bls, goodM]) hx4 (fun h => h)
            have hE4 := hE3.comp hx4
            have hT4 : ∀ k, looks [(0, fun z => Ext no w3 z), (2, fun z => Ext no w3 z)] k (u4) := looks_all ⟨hE4, hE4, trivial⟩
            refine hK _ _ (looks [(0, fun z => Ext no w3 z), (2, fun z => Ext no w3 z)]) ⟨.inr (.inr (fun x h => h)), .inr (.inr (fun x h => h)), trivial⟩ hT4 ?_
            clear hK K
            try simp only [Act.put, List.setIfInBounds_toArray, List.set_cons_zero, List.set_cons_succ]
            refine wpF_exec 6 rfl (by kernel_rfl) (by rfl) ?_
            intro K hK
            refine op_store_msg rfl (g := p5) (m := goodM m) (h := hA) (by rfl) (by rfl) hZp5 rfl (fun hBp5 hx5 => ?_)
            generalize u4.setCells p5 0 ((goodM m).cells hA) = u5 at *
            have hs5 := hx5.size
            have hZp6 := hZp6.ext (msg_ne _ _) hx5 (fun e => by have e : p6 = p5 := e; omega)
            have hXA : Ext (far u1.heap.size u2.heap.size) u2 u5 := hXA.comp (hx5.mono (fun k _ e => far_of (by omega) k e))
            have hXB : Ext (far u2.heap.size u3.heap.size) u3 u5 := hXB.comp (hx5.mono (fun k _ e => far_of (by omega) k e))
            have hBS := hBS.ext (by simp [bls, goodM]) hx5 (fun e => by have e : gB = p5 := e; omega)
            have hE5 := hE4.fresh hx5 (by omega)
            have hT5 : ∀ k, looks [(0, fun z => Ext no w3 z), (2, fun z => Ext no w3 z)] k (u5) := looks_all ⟨hE5, hE5, trivial⟩
            refine hK _ _ (looks [(0, fun z => Ext no w3 z), (2, fun z => Ext no w3 z)]) ⟨.inr (.inl (by kernel_rfl)), .inr (.inl (by kernel_rfl)), trivial⟩ hT5 ?_
            clear hK K
            try simp only [Act.put, List.setIfInBounds_toArray, List.set_cons_zero, List.set_cons_succ]
            refine wpF_exec 7 rfl (by kernel_rfl) (by rfl) ?_
            intro K hK
            refine op_store_msg rfl (g := p6) (m := goodM m) (h := hB) (by rfl) (by rfl) hZp6 rfl (fun hBp6 hx6 => ?_)
            generalize u5.setCells p6 0 ((goodM m).cells hB) = u6 at *
            have hs6 := hx6.size
            have hBp5 := hBp5.ext (msg_ne _ _) hx6 (fun e => by have e : p5 = p6 := e; omega)
            have hXA : Ext (far u1.heap.size u2.heap.size) u2 u6 := hXA.comp (hx6.mono (fun k _ e => far_of (by omega) k e))
            have hXB : Ext (far u2.heap.size u3.heap.size) u3 u6 := hXB.comp (hx6.mono (fun k _ e => far_of (by omega) k e))
            have hBS := hBS.ext (by simp [bls, goodM]) hx6 (fun e => by have e : gB = p6 := e; omega)
            have hE6 := hE5.fresh hx6 (by omega)
            have hT6 : ∀ k, looks [(0, fun z => Ext no w3 z), (2, fun z => Ext no w3 z)] k (u6) := looks_all ⟨hE6, hE6, trivial⟩
            refine hK _ _ (looks [(0, fun z => Ext no w3 z), (2, fun z => Ext no w3 z)]) ⟨.inr (.inl (by kernel_rfl)), .inr (.inl (by kernel_rfl)), trivial⟩ hT6 ?_
            clear hK K
            try simp only [Act.put, List.setIfInBounds_toArray, List.set_cons_zero, List.set_cons_succ]
            refine wpF_done (by kernel_rfl) ?_ _
            go_wp2_with fail
            go_meet
            refine ⟨p5, p6, gB, hA, hB, rfl, rfl, ⟨hBp5, hBp6, hBS, hBb, by omega, by omega, by omega, by omega, by omega, by omega, hE6, fun S wz hz hk hm => ?_, fun S wz sb hz hk hsb hrb hm => ?_⟩⟩
            · exact hAk _ wz (hXA.comp (hz.mono (fun k _ hs => by have := hk k hs; show k < u1.heap.size ∨ u2.heap.size ≤ k; omega))) (fun k hk => hk) hm
            · exact hBs (fun k => k = gB ∨ far u2.heap.size u3.heap.size k) wz sb ((hXB.mono (fun k _ hs => .inr hs)).comp (hz.mono (fun k _ hs => by have := hk k hs; show k = gB ∨ k < u2.heap.size ∨ u3.heap.size ≤ k; omega))) (fun k hk => hk) hsb hrb hm
          · refine ⟨_, rfl, by rfl, ?_⟩
            intro K hK
            refine op_alloc_msg rfl (fun hZp6 => ?_)
            have hx3 := Ext.alloc no u2 (.cells (MsgR.zero.cells MsgA.zero).toArray 36)
            obtain ⟨p6, hp6⟩ : ∃ p, p = u2.heap.size := ⟨_, rfl⟩
            rw [← hp6] at hZp6 ⊢
            have hn3 : p6 ≤ u2.heap.size := by omega
            have hm3 : u2.heap.size ≤ p6 := by omega
            clear hp6
            generalize u2.alloc (.cells (MsgR.zero.cells MsgA.zero).toArray 36) = u3 at *
            have hl3 : p6 < u3.heap.size := hZp6.lt (msg_ne _ _)
            have hs3 := hx3.size
            have hZp5 := hZp5.ext (msg_ne _ _) hx3 (fun h => h)
            have hXA : Ext (far u1.heap.size u2.heap.size) u2 u3 := hXA.comp (hx3.mono (fun _ _ h => h.elim))
            have hE3 := hE2.comp hx3
            have hT3 : ∀ k, looks [(0, fun z => Ext no w3 z), (2, fun z => Ext no w3 z)] k (u3) := looks_all ⟨hE3, hE3, trivial⟩
            refine hK _ _ (looks [(0, fun z => Ext no w3 z), (2, fun z => Ext no w3 z)]) ⟨.inr (.inr (fun x h => h)), .inr (.inr (fun x h => h)), trivial⟩ hT3 ?_
            clear hK K
            try simp only [Act.put, List.setIfInBounds_toArray, List.set_cons_zero, List.set_cons_succ]
            refine wpF_exec 3 rfl (by kernel_rfl) (by rfl) ?_
            intro K hK
            go_simp
            refine (wigood_any u3 m h (hin3.no hE3) hok).mono ?_
            rintro e u4 ⟨hB, rfl, hBin, hx4, ⟨gB, hBb, hBl, hBS, hBlt, hBs⟩, hBk⟩
            clear hBk hBin
            have hs4 := hx4.size
            have hZp5 := hZp5.ext (msg_ne _ _) hx4 (fun h => h)
            have hZp6 := hZp6.ext (msg_ne _ _) hx4 (fun h => h)
            have hXA : Ext (far u1.heap.size u2.heap.size) u2 u4 := hXA.comp (hx4.mono (fun _ _ h => h.elim))
            have hXB : Ext (far u3.heap.size u4.heap.size) u4 u4 := Ext.refl _ _
            have hE4 := hE3.comp hx4
            have hT4 : ∀ k, looks [(0, fun z => Ext no w3 z), (2, fun z => Ext no w3 z)] k (u4) := looks_all ⟨hE4, hE4, trivial⟩
            refine hK _ _ (looks [(0, fun z => Ext no w3 z), (2, fun z => Ext no w3 z)]) ⟨.inr (.inl (by kernel_rfl)), .inr (.inl (by kernel_rfl)), trivial⟩ hT4 ?_
            clear hK K
            try simp only [Act.put, List.setIfInBounds_toArray, List.set_cons_zero, List.set_cons_succ]
            refine wpF_exec 6 rfl (by kernel_rfl) (by rfl) ?_
            intro K hK
            refine op_store_msg rfl (g := p5) (m := goodM m) (h := hA) (by rfl) (by rfl) hZp5 rfl (fun hBp5 hx5 => ?_)
            generalize u4.setCells p5 0 ((goodM m).cells hA) = u5 at *
            have hs5 := hx5.size
            have hZp6 := hZp6.ext (msg_ne _ _) hx5 (fun e => by have e : p6 = p5 := e; omega)
            have hXA : Ext (far u1.heap.size u2.heap.size) u2 u5 := hXA.comp (hx5.mono (fun k _ e => far_of (by omega) k e))
            have hXB : Ext (far u3.heap.size u4.heap.size) u4 u5 := hXB.comp (hx5.mono (fun k _ e => far_of (by omega) k e))
            have hBS := hBS.ext (by simp [bls, goodM]) hx5 (fun e => by have e : gB = p5 := e; omega)
            have hE5 := hE4.fresh hx5 (by omega)
            have hT5 : ∀ k, looks [(0, fun z => Ext no w3 z), (2, fun z => Ext no w3 z)] k (u5) := looks_all ⟨hE5, hE5, trivial⟩
            refine hK _ _ (looks [(0, fun z => Ext no w3 z), (2, fun z => Ext no w3 z)]) ⟨.inr (.inl (by kernel_rfl)), .inr (.inl (by kernel_rfl)), trivial⟩ hT5 ?_
            clear hK K
            try simp only [Act.put, List.setIfInBounds_toArray, List.set_cons_zero, List.set_cons_succ]
            refine wpF_exec 7 rfl (by kernel_rfl) (by rfl) ?_
            intro K hK
            refine op_store_msg rfl (g := p6) (m := goodM m) (h := hB) (by rfl) (by rfl) hZp6 rfl (fun hBp6 hx6 => ?_)
            generalize u5.setCells p6 0 ((goodM m).cells hB) = u6 at *
            have hs6 := hx6.size
            have hBp5 := hBp5.ext (msg_ne _ _) hx6 (fun e => by have e : p5 = p6 := e; omega)
            have hXA : Ext (far u1.heap.size u2.heap.size) u2 u6 := hXA.comp (hx6.mono (fun k _ e => far_of (by omega) k e))
            have hXB : Ext (far u3.heap.size u4.heap.size) u4 u6 := hXB.comp (hx6.mono (fun k _ e => far_of (by omega) k e))
            have hBS := hBS.ext (by simp [bls, goodM]) hx6 (fun e => by have e : gB = p6 := e; omega)
            have hE6 := hE5.fresh hx6 (by omega)
            have hT6 : ∀ k, looks [(0, fun z => Ext no w3 z), (2, fun z => Ext no w3 z)] k (u6) := looks_all ⟨hE6, hE6, trivial⟩
            refine hK _ _ (looks [(0, fun z => Ext no w3 z), (2, fun z => Ext no w3 z)]) ⟨.inr (.inl (by kernel_rfl)), .inr (.inl (by kernel_rfl)), trivial⟩ hT6 ?_
            clear hK K
            try simp only [Act.put, List.setIfInBounds_toArray, List.set_cons_zero, List.set_cons_succ]
            refine wpF_done (by kernel_rfl) ?_ _
            go_wp2_with fail
            go_meet
            refine ⟨p5, p6, gB, hA, hB, rfl, rfl, ⟨hBp5, hBp6, hBS, hBb, by omega, by omega, by omega, by omega, by omega, by omega, hE6, fun S wz hz hk hm => ?_, fun S wz sb hz hk hsb hrb hm => ?_⟩⟩
            · exact hAk _ wz (hXA.comp (hz.mono (fun k _ hs => by have := hk k hs; show k < u1.heap.size ∨ u2.heap.size ≤ k; omega))) (fun k hk => hk) hm
            · exact hBs (fun k => k = gB ∨ far u3.heap.size u4.heap.size k) wz sb ((hXB.mono (fun k _ hs => .inr hs)).comp (hz.mono (fun k _ hs => by have := hk k hs; show k = gB ∨ k < u3.heap.size ∨ u4.heap.size ≤ k; omega))) (fun k hk => hk) hsb hrb hm
        · refine ⟨_, rfl, by rfl, ?_⟩
          intro K hK
          refine op_alloc_msg rfl (fun hZp6 => ?_)
          have hx2 := Ext.alloc no u1 (.cells (MsgR.zero.cells MsgA.zero).toArray 36)
          obtain ⟨p6, hp6⟩ : ∃ p, p = u1.heap.size := ⟨_, rfl⟩
          rw [← hp6] at hZp6 ⊢
          have hn2 : p6 ≤ u1.heap.size := by omega
          have hm2 : u1.heap.size ≤ p6 := by omega
          clear hp6
          generalize u1.alloc (.cells (MsgR.zero.cells MsgA.zero).toArray 36) = u2 at *
          have hl2 : p6 < u2.heap.size := hZp6.lt (msg_ne _ _)
          have hs2 := hx2.size
          have hZp5 := hZp5.ext (msg_ne _ _) hx2 (fun h => h)
          have hE2 := hE1.comp hx2
          have hT2 : ∀ k, looks [(0, fun z => Ext no w3 z), (2, fun z => Ext no w3 z)] k (u2) := looks_all ⟨hE2, hE2, trivial⟩
          refine hK _ _ (looks [(0, fun z => Ext no w3 z), (2, fun z => Ext no w3 z)]) ⟨.inr (.inr (fun x h => h)), .inr (.inr (fun x h => h)), trivial⟩ hT2 ?_
          clear hK K
          try simp only [Act.put, List.setIfInBounds_toArray, List.set_cons_zero, List.set_cons_succ]
          refine wpF_exec 1 rfl (by kernel_rfl) (by rfl) ?_
          intro K hK
          go_simp
          refine (wigood_any u2 m h (hin3.no hE2) hok).mono ?_
          rintro e u3 ⟨hA, rfl, hAin, hx3, hAg, hAk⟩
          clear hAg hAin
          have hs3 := hx3.size
          have hZp5 := hZp5.ext (msg_ne _ _) hx3 (fun h => h)
          have hZp6 := hZp6.ext (msg_ne _ _) hx3 (fun h => h)
          have hXA : Ext (far u2.heap.size u3.heap.size) u3 u3 := Ext.refl _ _
          have hE3 := hE2.comp hx3
          have hT3 : ∀ k, looks [(0, fun z => Ext no w3 z), (2, fun z => Ext no w3 z)] k (u3) := looks_all ⟨hE3, hE3, trivial⟩
          refine hK _ _ (looks [(0, fun z => Ext no w3 z), (2, fun z => Ext no w3 z)]) ⟨.inr (.inl (by kernel_rfl)), .inr (.inr (fun x h => h)), trivial⟩ hT3 ?_
          clear hK K
          try simp only [Act.put, List.setIfInBounds_toArray, List.set_cons_zero, List.set_cons_succ]
          refine wpF_exec 3 rfl (by kernel_rfl) (by rfl) ?_
          intro K hK
          go_simp
          refine (wigood_any u3 m h (hin3.no hE3) hok).mono ?_
          rintro e u4 ⟨hB, rfl, hBin, hx4, ⟨gB, hBb, hBl, hBS, hBlt, hBs⟩, hBk⟩
          clear hBk hBin
          have hs4 := hx4.size
          have hZp5 := hZp5.ext (msg_ne _ _) hx4 (fun h => h)
          have hZp6 := hZp6.ext (msg_ne _ _) hx4 (fun h => h)
          have hXA : Ext (far u2.heap.size u3.heap.size) u3 u4 := hXA.comp (hx4.mono (fun _ _ h => h.elim))
          have hXB : Ext (far u3.heap.size u4.heap.size) u4 u4 := Ext.refl _ _
          have hE4 := hE3.comp hx4
          have hT4 : ∀ k, looks [(0, fun z => Ext no w3 z), (2, fun z => Ext no w3 z)] k (u4) := looks_all ⟨hE4, hE4, trivial⟩
          refine hK _ _ (looks [(0, fun z => Ext no w3 z), (2, fun z => Ext no w3 z)]) ⟨.inr (.inl (by kernel_rfl)), .inr (.inl (by kernel_rfl)), trivial⟩ hT4 ?_
          clear hK K
          try simp only [Act.put, List.setIfInBounds_toArray, List.set_cons_zero, List.set_cons_succ]
          refine wpF_exec 6 rfl (by kernel_rfl) (by rfl) ?_
          intro K hK
          refine op_store_msg rfl (g := p5) (m := goodM m) (h := hA) (by rfl) (by rfl) hZp5 rfl (fun hBp5 hx5 => ?_)
          generalize u4.setCells p5 0 ((goodM m).cells hA) = u5 at *
          have hs5 := hx5.size
          have hZp6 := hZp6.ext (msg_ne _ _) hx5 (fun e => by have e : p6 = p5 := e; omega)
          have hXA : Ext (far u2.heap.size u3.heap.size) u3 u5 := hXA.comp (hx5.mono (fun k _ e => far_of (by omega) k e))
          have hXB : Ext (far u3.heap.size u4.heap.size) u4 u5 := hXB.comp (hx5.mono (fun k _ e => far_of (by omega) k e))
          have hBS := hBS.ext (by simp [bls, goodM]) hx5 (fun e => by have e : gB = p5 := e; omega)
          have hE5 := hE4.fresh hx5 (by omega)
          have hT5 : ∀ k, looks [(0, fun z => Ext no w3 z), (2, fun z => Ext no w3 z)] k (u5) := looks_all ⟨hE5, hE5, trivial⟩
          refine hK _ _ (looks [(0, fun z => Ext no w3 z), (2, fun z => Ext no w3 z)]) ⟨.inr (.inl (by kernel_rfl)), .inr (.inl (by kernel_rfl)), trivial⟩ hT5 ?_
          clear hK K
          try simp only [Act.put, List.setIfInBounds_toArray, List.set_cons_zero, List.set_cons_succ]
          refine wpF_exec 7 rfl (by kernel_rfl) (by rfl) ?_
          intro K hK
          refine op_store_msg rfl (g := p6) (m := goodM m) (h := hB) (by rfl) (by rfl) hZp6 rfl (fun hBp6 hx6 => ?_)
          generalize u5.setCells p6 0 ((goodM m).cells hB) = u6 at *
          have hs6 := hx6.size
          have hBp5 := hBp5.ext (msg_ne _ _) hx6 (fun e => by have e : p5 = p6 := e; omega)
          have hXA : Ext (far u2.heap.size u3.heap.size) u3 u6 := hXA.comp (hx6.mono (fun k _ e => far_of (by omega) k e))
          have hXB : Ext (far u3.heap.size u4.heap.size) u4 u6 := hXB.comp (hx6.mono (fun k _ e => far_of (by omega) k e))
          have hBS := hBS.ext (by simp [bls, goodM]) hx6 (fun e => by have e : gB = p6 := e; omega)
          have hE6 := hE5.fresh hx6 (by omega)
          have hT6 : ∀ k, looks [(0, fun z => Ext no w3 z), (2, fun z => Ext no w3 z)] k (u6) := looks_all ⟨hE6, hE6, trivial⟩
          refine hK _ _ (looks [(0, fun z => Ext no w3 z), (2, fun z => Ext no w3 z)]) ⟨.inr (.inl (by kernel_rfl)), .inr (.inl (by kernel_rfl)), trivial⟩ hT6 ?_
          clear hK K
          try simp only [Act.put, List.setIfInBounds_toArray, List.set_cons_zero, List.set_cons_succ]
          refine wpF_done (by kernel_rfl) ?_ _
          go_wp2_with fail
          go_meet
          refine ⟨p5, p6, gB, hA, hB, rfl, rfl, ⟨hBp5, hBp6, hBS, hBb, by omega, by omega, by omega, by omega, by omega, by omega, hE6, fun S wz hz hk hm => ?_, fun S wz sb hz hk hsb hrb hm => ?_⟩⟩
          · exact hAk _ wz (hXA.comp (hz.mono (fun k _ hs => by have := hk k hs; show k < u2.heap.size ∨ u3.heap.size ≤ k; omega))) (fun k hk => hk) hm
          · exact hBs (fun k => k = gB ∨ far u3.heap.size u4.heap.size k) wz sb ((hXB.mono (fun k _ hs => .inr hs)).comp (hz.mono (fun k _ hs => by have := hk k hs; show k = gB ∨ k < u3.heap.size ∨ u4.heap.size ≤ k; omega))) (fun k hk => hk) hsb hrb hm
      · refine ⟨_, rfl, by rfl, ?_⟩
        intro K hK
        refine op_alloc_msg rfl (fun hZp6 => ?_)
        have hx1 := Ext.alloc no wd (.cells (MsgR.zero.cells MsgA.zero).toArray 36)
        obtain ⟨p6, hp6⟩ : ∃ p, p = wd.heap.size := ⟨_, rfl⟩
        rw [← hp6] at hZp6 ⊢
        have hn1 : p6 ≤ wd.heap.size := by omega
        have hm1 : wd.heap.size ≤ p6 := by omega
        clear hp6
        generalize wd.alloc (.cells (MsgR.zero.cells MsgA.zero).toArray 36) = u1 at *
        have hl1 : p6 < u1.heap.size := hZp6.lt (msg_ne _ _)
        have hs1 := hx1.size
        have hE1 := hE0.comp hx1
        have hT1 : ∀ k, looks [(0, fun z => Ext no w3 z), (2, fun z => Ext no w3 z)] k (u1) := looks_all ⟨hE1, hE1, trivial⟩
        refine hK _ _ (looks [(0, fun z => Ext no w3 z), (2, fun z => Ext no w3 z)]) ⟨.inr (.inr (fun x h => h)), .inr (.inr (fun x h => h)), trivial⟩ hT1 ?_
        clear hK K
        try simp only [Act.put, List.setIfInBounds_toArray, List.set_cons_zero, List.set_cons_succ]
        refine wpF_execs [1, 4] (by kernel_rfl) (by simp) ?_
        intro j hj
        simp only [List.mem_cons, List.not_mem_nil, or_false] at hj
        rcases hj with rfl | rfl
        · refine ⟨_, rfl, by rfl, ?_⟩
          intro K hK
          go_simp
          refine (wigood_any u1 m h (hin3.no hE1) hok).mono ?_
          rintro e u2 ⟨hA, rfl, hAin, hx2, hAg, hAk⟩
          clear hAg hAin
          have hs2 := hx2.size
          have hZp6 := hZp6.ext (msg_ne _ _) hx2 (fun h => h)
          have hXA : Ext (far u1.heap.size u2.heap.size) u2 u2 := Ext.refl _ _
          have hE2 := hE1.comp hx2
          have hT2 : ∀ k, looks [(0, fun z => Ext no w3 z), (2, fun z => Ext no w3 z)] k (u2) := looks_all ⟨hE2, hE2, trivial⟩
          refine hK _ _ (looks [(0, fun z => Ext no w3 z), (2, fun z => Ext no w3 z)]) ⟨.inr (.inl (by kernel_rfl)), .inr (.inr (fun x h => h)), trivial⟩ hT2 ?_
          clear hK K
          try simp only [Act.put, List.setIfInBounds_toArray, List.set_cons_zero, List.set_cons_succ]
          refine wpF_execs [3, 4] (by kernel_rfl) (by simp) ?_
          intro j hj
          simp only [List.mem_cons, List.not_mem_nil, or_false] at hj
          rcases hj with rfl | rfl
          · refine ⟨_, rfl, by rfl, ?_⟩
            intro K hK
            go_simp
            refine (wigood_any u2 m h (hin3.no hE2) hok).mono ?_
            rintro e u3 ⟨hB, rfl, hBin, hx3, ⟨gB, hBb, hBl, hBS, hBlt, hBs⟩, hBk⟩
            clear hBk hBin
            have hs3 := hx3.size
            have hZp6 := hZp6.ext (msg_ne _ _) hx3 (fun h => h)
            have hXA : Ext (far u1.heap.size u2.heap.size) u2 u3 := hXA.comp (hx3.mono (fun _ _ h => h.elim))
            have hXB : Ext (far u2.heap.size u3.heap.size) u3 u3 := Ext.refl _ _
            have hE3 := hE2.comp hx3
            have hT3 : ∀ k, looks [(0, fun z => Ext no w3 z), (2, fun z => Ext no w3 z)] k (u3) := looks_all ⟨hE3, hE3, trivial⟩
            refine hK _ _ (looks [(0, fun z => Ext no w3 z), (2, fun z => Ext no w3 z)]) ⟨.inr (.inl (by kernel_rfl)), .inr (.inl (by kernel_rfl)), trivial⟩ hT3 ?_
            clear hK K
            try simp only [Act.put, List.setIfInBounds_toArray, List.set_cons_zero, List.set_cons_succ]
            refine wpF_exec 4 rfl (by kernel_rfl) (by rfl) ?_
            intro K hK
            refine op_alloc_msg rfl (fun hZp5 => ?_)
            have hx4 := Ext.alloc no u3 (.cells (MsgR.zero.cells MsgA.zero).toArray 36)
            obtain ⟨p5, hp5⟩ : ∃ p, p = u3.heap.size := ⟨_, rfl⟩
            rw [← hp5] at hZp5 ⊢
            have hn4 : p5 ≤ u3.heap.size := by omega
            have hm4 : u3.heap.size ≤ p5 := by omega
            clear hp5
            generalize u3.alloc (.cells (MsgR.zero.cells MsgA.zero).toArray 36) = u4 at *
            have hl4 : p5 < u4.heap.size := hZp5.lt (msg_ne _ _)
            have hs4 := hx4.size
            have hZp6 := hZp6.ext (msg_ne _ _) hx4 (fun h => h)
            have hXA : Ext (far u1.heap.size u2.heap.size) u2 u4 := hXA.comp (hx4.mono (fun _ _ h => h.elim))
            have hXB : Ext (far u2.heap.size u3.heap.size) u3 u4 := hXB.comp (hx4.mono (fun _ _ h => h.elim))
            have hBS := hBS.ext (by simp [bls, goodM]) hx4 (fun h => h)
            have hE4 := hE3.comp hx4
            have hT4 : ∀ k, looks [(0, fun z => Ext no w3 z), (2, fun z => Ext no w3 z)] k (u4) := looks_all ⟨hE4, hE4, trivial⟩
            refine hK _ _ (looks [(0, fun z => Ext no w3 z), (2, fun z => Ext no w3 z)]) ⟨.inr (.inr (fun x h => h)), .inr (.inr (fun x h => h)), trivial⟩ hT4 ?_
            clear hK K
            try simp only [Act.put, List.setIfInBounds_toArray, List.set_cons_zero, List.set_cons_succ]
            refine wpF_exec 6 rfl (by kernel_rfl) (by rfl) ?_
            intro K hK
            refine op_store_msg rfl (g := p5) (m := goodM m) (h := hA) (by rfl) (by rfl) hZp5 rfl (fun hBp5 hx5 => ?_)
            generalize u4.setCells p5 0 ((goodM m).cells hA) = u5 at *
            have hs5 := hx5.size
            have hZp6 := hZp6.ext (msg_ne _ _) hx5 (fun e => by have e : p6 = p5 := e; omega)
            have hXA : Ext (far u1.heap.size u2.heap.size) u2 u5 := hXA.comp (hx5.mono (fun k _ e => far_of (by omega) k e))
            have hXB : Ext (far u2.heap.size u3.heap.size) u3 u5 := hXB.comp (hx5.mono (fun k _ e => far_of (by omega) k e))
            have hBS := hBS.ext (by simp [bls, goodM]) hx5 (fun e => by have e : gB = p5 := e; omega)
            have hE5 := hE4.fresh hx5 (by omega)
            have hT5 : ∀ k, looks [(0, fun z => Ext no w3 z), (2, fun z => Ext no w3 z)] k (u5) := looks_all ⟨hE5, hE5, trivial⟩
            refine hK _ _ (looks [(0, fun z => Ext no w3 z), (2, fun z => Ext no w3 z)]) ⟨.inr (.inl (by kernel_rfl)), .inr (.inl (by kernel_rfl)), trivial⟩ hT5 ?_
            clear hK K
            try simp only [Act.put, List.setIfInBounds_toArray, List.set_cons_zero, List.set_cons_succ]
            refine wpF_exec 7 rfl (by kernel_rfl) (by rfl) ?_
            intro K hK
            refine op_store_msg rfl (g := p6) (m := goodM m) (h := hB) (by rfl) (by rfl) hZp6 rfl (fun hBp6 hx6 => ?_)
            generalize u5.setCells p6 0 ((goodM m).cells hB) = u6 at *
            have hs6 := hx6.size
            have hBp5 := hBp5.ext (msg_ne _ _) hx6 (fun e => by have e : p5 = p6 := e; omega)
            have hXA : Ext (far u1.heap.size u2.heap.size) u2 u6 := hXA.comp (hx6.mono (fun k _ e => far_of (by omega) k e))
            have hXB : Ext (far u2.heap.size u3.heap.size) u3 u6 := hXB.comp (hx6.mono (fun k _ e => far_of (by omega) k e))
            have hBS := hBS.ext (by simp [bls, goodM]) hx6 (fun e => by have e : gB = p6 := e; omega)
            have hE6 := hE5.fresh hx6 (by omega)
            have hT6 : ∀ k, looks [(0, fun z => Ext no w3 z), (2, fun z => Ext no w3 z)] k (u6) := looks_all ⟨hE6, hE6, trivial⟩
            refine hK _ _ (looks [(0, fun z => Ext no w3 z), (2, fun z => Ext no w3 z)]) ⟨.inr (.inl (by kernel_rfl)), .inr (.inl (by kernel_rfl)), trivial⟩ hT6 ?_
            clear hK K
            try simp only [Act.put, List.setIfInBounds_toArray, List.set_cons_zero, List.set_cons_succ]
            refine wpF_done (by kernel_rfl) ?_ _
            go_wp2_with fail
            go_meet
            refine ⟨p5, p6, gB, hA, hB, rfl, rfl, ⟨hBp5, hBp6, hBS, hBb, by omega, by omega, by omega, by omega, by omega, by omega, hE6, fun S wz hz hk hm => ?_, fun S wz sb hz hk hsb hrb hm => ?_⟩⟩
            · exact hAk _ wz (hXA.comp (hz.mono (fun k _ hs => by have := hk k hs; show k < u1.heap.size ∨ u2.heap.size ≤ k; omega))) (fun k hk => hk) hm
            · exact hBs (fun k => k = gB ∨ far u2.heap.size u3.heap.size k) wz sb ((hXB.mono (fun k _ hs => .inr hs)).comp (hz.mono (fun k _ hs => by have := hk k hs; show k = gB ∨ k < u2.heap.size ∨ u3.heap.size ≤ k; omega))) (fun k hk => hk) hsb hrb hm
          · refine ⟨_, rfl, by rfl, ?_⟩
            intro K hK
            refine op_alloc_msg rfl (fun hZp5 => ?_)
            have hx3 := Ext.alloc no u2 (.cells (MsgR.zero.cells MsgA.zero).toArray 36)
            obtain ⟨p5, hp5⟩ : ∃ p, p = u2.heap.size := ⟨_, rfl⟩
            rw [← hp5] at hZp5 ⊢
            have hn3 : p5 ≤ u2.heap.size := by omega
            have hm3 : u2.heap.size ≤ p5 := by omega
            clear hp5
            generalize u2.alloc (.cells (MsgR.zero.cells MsgA.zero).toArray 36) = u3 at *
            have hl3 : p5 < u3.heap.size := hZp5.lt (msg_ne _ _)
            have hs3 := hx3.size
            have hZp6 := hZp6.ext (msg_ne _ _) hx3 (fun h => h)
            have hXA : Ext (far u1.heap.size u2.heap.size) u2 u3 := hXA.comp (hx3.mono (fun _ _ h => h.elim))
            have hE3 := hE2.comp hx3
            have hT3 : ∀ k, looks [(0, fun z => Ext no w3 z), (2, fun z => Ext no w3 z)] k (u3) := looks_all ⟨hE3, hE3, trivial⟩
            refine hK _ _ (looks [(0, fun z => Ext no w3 z), (2, fun z => Ext no w3 z)]) ⟨.inr (.inr (fun x h => h)), .inr (.inr (fun x h => h)), trivial⟩ hT3 ?_
            clear hK K
            try simp only [Act.put, List.setIfInBounds_toArray, List.set_cons_zero, List.set_cons_succ]
            refine wpF_exec 3 rfl (by kernel_rfl) (by rfl) ?_
            intro K hK
            go_simp
            refine (wigood_any u3 m h (hin3.no hE3) hok).mono ?_
            rintro e u4 ⟨hB, rfl, hBin, hx4, ⟨gB, hBb, hBl, hBS, hBlt, hBs⟩, hBk⟩
            clear hBk hBin
            have hs4 := hx4.size
            have hZp5 := hZp5.ext (msg_ne _ _) hx4 (fun h => h)
            have hZp6 := hZp6.ext (msg_ne _ _) hx4 (fun h => h)
            have hXA : Ext (far u1.heap.size u2.heap.size) u2 u4 := hXA.comp (hx4.mono (fun _ _ h => h.elim))
            have hXB : Ext (far u3.heap.size u4.heap.size) u4 u4 := Ext.refl _ _
            have hE4 := hE3.comp hx4
            have hT4 : ∀ k, looks [(0, fun z => Ext no w3 z), (2, fun z => Ext no w3 z)] k (u4) := looks_all ⟨hE4, hE4, trivial⟩
            refine hK _ _ (looks [(0, fun z => Ext no w3 z), (2, fun z => Ext no w3 z)]) ⟨.inr (.inl (by kernel_rfl)), .inr (.inl (by kernel_rfl)), trivial⟩ hT4 ?_
            clear hK K
            try simp only [Act.put, List.setIfInBounds_toArray, List.set_cons_zero, List.set_cons_succ]
            refine wpF_exec 6 rfl (by kernel_rfl) (by rfl) ?_
            intro K hK
            refine op_store_msg rfl (g := p5) (m := goodM m) (h := hA) (by rfl) (by rfl) hZp5 rfl (fun hBp5 hx5 => ?_)
            generalize u4.setCells p5 0 ((goodM m).cells hA) = u5 at *
            have hs5 := hx5.size
            have hZp6 := hZp6.ext (msg_ne _ _) hx5 (fun e => by have e : p6 = p5 := e; omega)
            have hXA : Ext (far u1.heap.size u2.heap.size) u2 u5 := hXA.comp (hx5.mono (fun k _ e => far_of (by omega) k e))
            have hXB : Ext (far u3.heap.size u4.heap.size) u4 u5 := hXB.comp (hx5.mono (fun k _ e => far_of (by omega) k e))
            have hBS := hBS.ext (by simp [bls, goodM]) hx5 (fun e => by have e : gB = p5 := e; omega)
            have hE5 := hE4.fresh hx5 (by omega)
            have hT5 : ∀ k, looks [(0, fun z => Ext no w3 z), (2, fun z => Ext no w3 z)] k (u5) := looks_all ⟨hE5, hE5, trivial⟩
            refine hK _ _ (looks [(0, fun z => Ext no w3 z), (2, fun z => Ext no w3 z)]) ⟨.inr (.inl (by kernel_rfl)), .inr (.inl (by kernel_rfl)), trivial⟩ hT5 ?_
            clear hK K
            try simp only [Act.put, List.setIfInBounds_toArray, List.set_cons_zero, List.set_cons_succ]
            refine wpF_exec 7 rfl (by kernel_rfl) (by rfl) ?_
            intro K hK
            refine op_store_msg rfl (g := p6) (m := goodM m) (h := hB) (by rfl) (by rfl) hZp6 rfl (fun hBp6 hx6 => ?_)
            generalize u5.setCells p6 0 ((goodM m).cells hB) = u6 at *
            have hs6 := hx6.size
            have hBp5 := hBp5.ext (msg_ne _ _) hx6 (fun e => by have e : p5 = p6 := e; omega)
            have hXA : Ext (far u1.heap.size u2.heap.size) u2 u6 := hXA.comp (hx6.mono (fun k _ e => far_of (by omega) k e))
            have hXB : Ext (far u3.heap.size u4.heap.size) u4 u6 := hXB.comp (hx6.mono (fun k _ e => far_of (by omega) k e))
            have hBS := hBS.ext (by simp [bls, goodM]) hx6 (fun e => by have e : gB = p6 := e; omega)
            have hE6 := hE5.fresh hx6 (by omega)
            have hT6 : ∀ k, looks [(0, fun z => Ext no w3 z), (2, fun z => Ext no w3 z)] k (u6) := looks_all ⟨hE6, hE6, trivial⟩
            refine hK _ _ (looks [(0, fun z => Ext no w3 z), (2, fun z => Ext no w3 z)]) ⟨.inr (.inl (by kernel_rfl)), .inr (.inl (by kernel_rfl)), trivial⟩ hT6 ?_
            clear hK K
            try simp only [Act.put, List.setIfInBounds_toArray, List.set_cons_zero, List.set_cons_succ]
            refine wpF_done (by kernel_rfl) ?_ _
            go_wp2_with fail
            go_meet
            refine ⟨p5, p6, gB, hA, hB, rfl, rfl, ⟨hBp5, hBp6, hBS, hBb, by omega, by omega, by omega, by omega, by omega, by omega, hE6, fun S wz hz hk hm => ?_, fun S wz sb hz hk hsb hrb hm => ?_⟩⟩
            · exact hAk _ wz (hXA.comp (hz.mono (fun k _ hs => by have := hk k hs; show k < u1.heap.size ∨ u2.heap.size ≤ k; omega))) (fun k hk => hk) hm
            · exact hBs (fun k => k = gB ∨ far u3.heap.size u4.heap.size k) wz sb ((hXB.mono (fun k _ hs => .inr hs)).comp (hz.mono (fun k _ hs => by have := hk k hs; show k = gB ∨ k < u3.heap.size ∨ u4.heap.size ≤ k; omega))) (fun k hk => hk) hsb hrb hm
        · refine ⟨_, rfl, by rfl, ?_⟩
          intro K hK
          refine op_alloc_msg rfl (fun hZp5 => ?_)
          have hx2 := Ext.alloc no u1 (.cells (MsgR.zero.cells MsgA.zero).toArray 36)
          obtain ⟨p5, hp5⟩ : ∃ p, p = u1.heap.size := ⟨_, rfl⟩
          rw [← hp5] at hZp5 ⊢
          have hn2 : p5 ≤ u1.heap.size := by omega
          have hm2 : u1.heap.size ≤ p5 := by omega
          clear hp5
          generalize u1.alloc (.cells (MsgR.zero.cells MsgA.zero).toArray 36) = u2 at *
          have hl2 : p5 < u2.heap.size := hZp5.lt (msg_ne _ _)
          have hs2 := hx2.size
          have hZp6 := hZp6.ext (msg_ne _ _) hx2 (fun h => h)
          have hE2 := hE1.comp hx2
          have hT2 : ∀ k, looks [(0, fun z => Ext no w3 z), (2, fun z => Ext no w3 z)] k (u2) := looks_all ⟨hE2, hE2, trivial⟩
          refine hK _ _ (looks [(0, fun z => Ext no w3 z), (2, fun z => Ext no w3 z)]) ⟨.inr (.inr (fun x h => h)), .inr (.inr (fun x h => h)), trivial⟩ hT2 ?_
          clear hK K
          try simp only [Act.put, List.setIfInBounds_toArray, List.set_cons_zero, List.set_cons_succ]
          refine wpF_exec 1 rfl (by kernel_rfl) (by rfl) ?_
          intro K hK
          go_simp
          refine (wigood_any u2 m h (hin3.no hE2) hok).mono ?_
          rintro e u3 ⟨hA, rfl, hAin, hx3, hAg, hAk⟩
          clear hAg hAin
          have hs3 := hx3.size
          have hZp5 := hZp5.ext (msg_ne _ _) hx3 (fun h => h)
          have hZp6 := hZp6.ext (msg_ne _ _) hx3 (fun h => h)
          have hXA : Ext (far u2.heap.size u3.heap.size) u3 u3 := Ext.refl _ _
          have hE3 := hE2.comp hx3
          have hT3 : ∀ k, looks [(0, fun z => Ext no w3 z), (2, fun z => Ext no w3 z)] k (u3) := looks_all ⟨hE3, hE3, trivial⟩
          refine hK _ _ (looks [(0, fun z => Ext no w3 z), (2, fun z => Ext no w3 z)]) ⟨.inr (.inl (by kernel_rfl)), .inr (.inr (fun x h => h)), trivial⟩ hT3 ?_
          clear hK K
          try simp only [Act.put, List.setIfInBounds_toArray, List.set_cons_zero, List.set_cons_succ]
          refine wpF_exec 3 rfl (by kernel_rfl) (by rfl) ?_
          intro K hK
          go_simp
          refine (wigood_any u3 m h (hin3.no hE3) hok).mono ?_
          rintro e u4 ⟨hB, rfl, hBin, hx4, ⟨gB, hBb, hBl, hBS, hBlt, hBs⟩, hBk⟩
          clear hBk hBin
          have hs4 := hx4.size
          have hZp5 := hZp5.ext (msg_ne _ _) hx4 (fun h => h)
          have hZp6 := hZp6.ext (msg_ne _ _) hx4 (fun h => h)
          have hXA : Ext (far u2.heap.size u3.heap.size) u3 u4 := hXA.comp (hx4.mono (fun _ _ h => h.elim))
          have hXB : Ext (far u3.heap.size u4.heap.size) u4 u4 := Ext.refl _ _
          have hE4 := hE3.comp hx4
          have hT4 : ∀ k, looks [(0, fun z => Ext no w3 z), (2, fun z => Ext no w3 z)] k (u4) := looks_all ⟨hE4, hE4, trivial⟩
          refine hK _ _ (looks [(0, fun z => Ext no w3 z), (2, fun z => Ext no w3 z)]) ⟨.inr (.inl (by kernel_rfl)), .inr (.inl (by kernel_rfl)), trivial⟩ hT4 ?_
          clear hK K
          try simp only [Act.put, List.setIfInBounds_toArray, List.set_cons_zero, List.set_cons_succ]
          refine wpF_exec 6 rfl (by kernel_rfl) (by rfl) ?_
          intro K hK
          refine op_store_msg rfl (g := p5) (m := goodM m) (h := hA) (by rfl) (by rfl) hZp5 rfl (fun hBp5 hx5 => ?_)
          generalize u4.setCells p5 0 ((goodM m).cells hA) = u5 at *
          have hs5 := hx5.size
          have hZp6 := hZp6.ext (msg_ne _ _) hx5 (fun e => by have e : p6 = p5 := e; omega)
          have hXA : Ext (far u2.heap.size u3.heap.size) u3 u5 := hXA.comp (hx5.mono (fun k _ e => far_of (by omega) k e))
          have hXB : Ext (far u3.heap.size u4.heap.size) u4 u5 := hXB.comp (hx5.mono (fun k _ e => far_of (by omega) k e))
          have hBS := hBS.ext (by simp [bls, goodM]) hx5 (fun e => by have e : gB = p5 := e; omega)
          have hE5 := hE4.fresh hx5 (by omega)
          have hT5 : ∀ k, looks [(0, fun z => Ext no w3 z), (2, fun z => Ext no w3 z)] k (u5) := looks_all ⟨hE5, hE5, trivial⟩
          refine hK _ _ (looks [(0, fun z => Ext no w3 z), (2, fun z => Ext no w3 z)]) ⟨.inr (.inl (by kernel_rfl)), .inr (.inl (by kernel_rfl)), trivial⟩ hT5 ?_
          clear hK K
          try simp only [Act.put, List.setIfInBounds_toArray, List.set_cons_zero, List.set_cons_succ]
          refine wpF_exec 7 rfl (by kernel_rfl) (by rfl) ?_
          intro K hK
          refine op_store_msg rfl (g := p6) (m := goodM m) (h := hB) (by rfl) (by rfl) hZp6 rfl (fun hBp6 hx6 => ?_)
          generalize u5.setCells p6 0 ((goodM m).cells hB) = u6 at *
          have hs6 := hx6.size
          have hBp5 := hBp5.ext (msg_ne _ _) hx6 (fun e => by have e : p5 = p6 := e; omega)
          have hXA : Ext (far u2.heap.size u3.heap.size) u3 u6 := hXA.comp (hx6.mono (fun k _ e => far_of (by omega) k e))
          have hXB : Ext (far u3.heap.size u4.heap.size) u4 u6 := hXB.comp (hx6.mono (fun k _ e => far_of (by omega) k e))
          have hBS := hBS.ext (by simp [bls, goodM]) hx6 (fun e => by have e : gB = p6 := e; omega)
          have hE6 := hE5.fresh hx6 (by omega)
          have hT6 : ∀ k, looks [(0, fun z => Ext no w3 z), (2, fun z => Ext no w3 z)] k (u6) := looks_all ⟨hE6, hE6, trivial⟩
          refine hK _ _ (looks [(0, fun z => Ext no w3 z), (2, fun z => Ext no w3 z)]) ⟨.inr (.inl (by kernel_rfl)), .inr (.inl (by kernel_rfl)), trivial⟩ hT6 ?_
          clear hK K
          try simp only [Act.put, List.setIfInBounds_toArray, List.set_cons_zero, List.set_cons_succ]
          refine wpF_done (by kernel_rfl) ?_ _
          go_wp2_with fail
          go_meet
          refine ⟨p5, p6, gB, hA, hB, rfl, rfl, ⟨hBp5, hBp6, hBS, hBb, by omega, by omega, by omega, by omega, by omega, by omega, hE6, fun S wz hz hk hm => ?_, fun S wz sb hz hk hsb hrb hm => ?_⟩⟩
          · exact hAk _ wz (hXA.comp (hz.mono (fun k _ hs => by have := hk k hs; show k < u2.heap.size ∨ u3.heap.size ≤ k; omega))) (fun k hk => hk) hm
          · exact hBs (fun k => k = gB ∨ far u3.heap.size u4.heap.size k) wz sb ((hXB.mono (fun k _ hs => .inr hs)).comp (hz.mono (fun k _ hs => by have := hk k hs; show k = gB ∨ k < u3.heap.size ∨ u4.heap.size ≤ k; omega))) (fun k hk => hk) hsb hrb hm
    case rest =>
      obtain ⟨ga, gb, gB, hA, hB, rfl, rfl, hT⟩ := hcut
      have hni := goodM_nice m hok HF.out
      obtain ⟨w4, h0⟩ : ∃ v, v = wc := ⟨_, rfl⟩
      subst h0
      obtain ⟨M, hM⟩ : ∃ M, M = goodM m := ⟨_, rfl⟩
      rw [← hM] at hT hni
      clear hM HF hC3
      obtain ⟨s0, s1, s2, hss⟩ : ∃ s0 s1 s2, M.subs = [s0, s1, s2] := by
        have q := hni.sb
        match M.subs, q with
        | [a, b, c], _ => exact ⟨a, b, c, rfl⟩
      have hab := hT.ab
      have haS := hT.aS
      have hbS := hT.bS'
      have z0 : w4.cell? ⟨ga, 0, none⟩ = some (.int .i64 M.kind) := hT.bA.cell 0 _ rfl
      go_wp2_with fail
      refine (wiwithin_any which 9 w4 (by omega) (by omega) hwh).mono ?_
      rintro e we ⟨rfl, rfl⟩
      obtain ⟨J, hJ⟩ : ∃ J, J = which % 9 := ⟨_, rfl⟩
      rw [← hJ]
      have hJ9 : 0 ≤ J ∧ J < 9 := by omega
      clear hJ
      rcases (show J = 0 ∨ J = 1 ∨ J = 2 ∨ J = 3 ∨ J = 4 ∨ J = 5 ∨ J = 6 ∨ J = 7 ∨ J = 8 by omega) with rfl | rfl | rfl | rfl | rfl | rfl | rfl | rfl | rfl
      · have y1 : w4.cell? ⟨gb, 1, none⟩ = some (.int .i64 M.dev) := hT.bB.cell 1 _ rfl
        have f1 := hT.bB.fr 1
        go_upto_region 35 with fail
        have hB5 := hT.bB.put 1 (.int .i64 (wrap64 (M.dev + 1))) (by show 1 < 25; omega) (ds := ({ M with dev := wrap64 (M.dev + 1) } : MsgR).cells hB) rfl
        have hx5 := Ext.at w4 gb 1 (.int .i64 (wrap64 (M.dev + 1)))
        generalize w4.setCell ⟨gb, 1, none⟩ (.int .i64 (wrap64 (M.dev + 1))) = w5 at *
        have hxx5 := hT.x.fresh hx5 hT.lb
        have hA5 := hT.bA.ext (msg_ne _ _) hx5 (fun e => by have e : ga = gb := e; omega)
        have hMA := hT.kA _ w5 hx5 (fun k e => .inl e) (hin3.no hxx5)
        have q := hT.kB _ w5 M.subs hx5 (fun k e => .inl e) hni.sb (blk_rd (hT.bS.ext (by rw [hss]; simp [bls]) hx5 (fun e => by have e : gB = gb := e; omega))) (hin3.no hxx5)
        obtain ⟨BB, hBB⟩ : ∃ BB, BB = ({ M with dev := wrap64 (M.dev + 1) } : MsgR) := ⟨_, rfl⟩
        have hMB : BB.In w5 hB := by rw [hBB]; exact ⟨q.b, q.c, q.r, q.o, q.bl, q.bm, q.ol, q.om⟩
        have hTw : Twin M BB := by rw [hBB]; exact ⟨rfl, hni.kd, rfl, rfl, rfl, rfl, rfl, rfl, rfl⟩
        have hSh := nice_short hni
        have hSh' : Short BB := by rw [hBB]; have q := hSh; exact ⟨q.cw, q.co, q.cd, q.rs, q.ri, q.ru, q.mo, q.md, q.sb⟩
        have hS' := same0 M (wrap64 (M.dev + 1)) (w64_ne _ hni.ok.dev)
        rw [← hBB] at hS' hB5
        clear hBB q
        have hP : sameP M BB ↔ true = false := by rw [hS']; simp
        clear hS'
        clear hT
        refine wp_region_lit ?_
        refine wp_load_msg (m := M) (h := hA) rfl rfl (by rfl) hA5 ?_
        simp only [Act.put, List.setIfInBounds_toArray, List.set_cons_zero, List.set_cons_succ]
        refine wp_load_msg (m := BB) (h := hB) rfl rfl (by rfl) hB5 ?_
        simp only [Act.put, List.setIfInBounds_toArray, List.set_cons_zero, List.set_cons_succ]
        go_wp2_with fail
        refine (wisame_any w5 M BB hA hB hMA hMB hTw hSh).mono ?_
        rintro e w6 ⟨r, rfl, hr, hx6⟩
        obtain rfl := notD hr hP
        clear hr
        rename_i hK
        dsimp only
        refine hK _ _ ?_
        clear hK
        refine wp_val (by rfl) (.bool true) (by go_simp) ?_
        simp only [Act.put, List.setIfInBounds_toArray, List.set_cons_zero, List.set_cons_succ]
        refine wp_val (by rfl) (.bool (!true)) (by go_simp) ?_
        simp only [Act.put, List.setIfInBounds_toArray, List.set_cons_zero, List.set_cons_succ]
        refine wp_val (by rfl) (.bool true) (by go_simp) ?_
        simp only [Act.put, List.setIfInBounds_toArray, List.set_cons_zero, List.set_cons_succ]
        refine wp_val (by rfl) (.bool true) (by go_simp) ?_
        simp only [Act.put, List.setIfInBounds_toArray, List.set_cons_zero, List.set_cons_succ]
        refine wp_val (by rfl) (BB.val hB) (run_load_msg rfl (by rfl) (hB5.ext (msg_ne _ _) hx6 (fun h => h))) ?_
        simp only [Act.put, List.setIfInBounds_toArray, List.set_cons_zero, List.set_cons_succ]
        refine wp_val (by rfl) (M.val hA) (run_load_msg rfl (by rfl) (hA5.ext (msg_ne _ _) hx6 (fun h => h))) ?_
        simp only [Act.put, List.setIfInBounds_toArray, List.set_cons_zero, List.set_cons_succ]
        go_wp2_with fail
        refine (wisame_any w6 BB M hB hA (hMB.no hx6) (hMA.no hx6) hTw.symm hSh').mono ?_
        rintro e w7 ⟨r, rfl, hr, hx7⟩
        have hP' : sameP BB M ↔ true = false := ⟨fun q => hP.1 (sameP_symm hTw.kd.symm q), fun q => sameP_symm hTw.kd (hP.2 q)⟩
        obtain rfl := notD hr hP'
        clear hr hP'
        go_wp2_with fail
        go_ret
        exact ⟨by simp, hxx3.comp ((hxx5.comp hx6).comp hx7)⟩
      · have y2 : w4.cell? ⟨gb, 2, none⟩ = some (.int .i64 M.req) := hT.bB.cell 2 _ rfl
        have f2 := hT.bB.fr 2
        obtain ⟨b2, e2⟩ : ∃ b, (M.kind == (2 : Int)) = b := ⟨_, rfl⟩
        obtain ⟨b5, e5⟩ : ∃ b, (M.kind == (5 : Int)) = b := ⟨_, rfl⟩
        cases b2 with
        | true =>
          go_upto_region 35 with fail
          have hB5 := hT.bB.put 2 (.int .i64 (wrap64 (M.req + 1))) (by show 2 < 25; omega) (ds := ({ M with req := wrap64 (M.req + 1) } : MsgR).cells hB) rfl
          have hx5 := Ext.at w4 gb 2 (.int .i64 (wrap64 (M.req + 1)))
          generalize w4.setCell ⟨gb, 2, none⟩ (.int .i64 (wrap64 (M.req + 1))) = w5 at *
          have hxx5 := hT.x.fresh hx5 hT.lb
          have hA5 := hT.bA.ext (msg_ne _ _) hx5 (fun e => by have e : ga = gb := e; omega)
          have hMA := hT.kA _ w5 hx5 (fun k e => .inl e) (hin3.no hxx5)
          have q := hT.kB _ w5 M.subs hx5 (fun k e => .inl e) hni.sb (blk_rd (hT.bS.ext (by rw [hss]; simp [bls]) hx5 (fun e => by have e : gB = gb := e; omega))) (hin3.no hxx5)
          obtain ⟨BB, hBB⟩ : ∃ BB, BB = ({ M with req := wrap64 (M.req + 1) } : MsgR) := ⟨_, rfl⟩
          have hMB : BB.In w5 hB := by rw [hBB]; exact ⟨q.b, q.c, q.r, q.o, q.bl, q.bm, q.ol, q.om⟩
          have hTw : Twin M BB := by rw [hBB]; exact ⟨rfl, hni.kd, rfl, rfl, rfl, rfl, rfl, rfl, rfl⟩
          have hSh := nice_short hni
          have hSh' : Short BB := by rw [hBB]; have q := hSh; exact ⟨q.cw, q.co, q.cd, q.rs, q.ri, q.ru, q.mo, q.md, q.sb⟩
          have hS' := same1 M (wrap64 (M.req + 1)) (w64_ne _ hni.ok.req)
          rw [← hBB] at hS' hB5
          clear hBB q
          have hP : sameP M BB ↔ true = false := by rw [hS']; have n2 : M.kind = 2 := (by simpa using e2); simp [n2]
          clear hS'
          clear e2 e5 hT
          refine wp_region_lit ?_
          refine wp_load_msg (m := M) (h := hA) rfl rfl (by rfl) hA5 ?_
          simp only [Act.put, List.setIfInBounds_toArray, List.set_cons_zero, List.set_cons_succ]
          refine wp_load_msg (m := BB) (h := hB) rfl rfl (by rfl) hB5 ?_
          simp only [Act.put, List.setIfInBounds_toArray, List.set_cons_zero, List.set_cons_succ]
          go_wp2_with fail
          refine (wisame_any w5 M BB hA hB hMA hMB hTw hSh).mono ?_
          rintro e w6 ⟨r, rfl, hr, hx6⟩
          obtain rfl := notD hr hP
          clear hr
          rename_i hK
          dsimp only
          refine hK _ _ ?_
          clear hK
          refine wp_val (by rfl) (.bool true) (by go_simp) ?_
          simp only [Act.put, List.setIfInBounds_toArray, List.set_cons_zero, List.set_cons_succ]
          refine wp_val (by rfl) (.bool (!true)) (by go_simp) ?_
          simp only [Act.put, List.setIfInBounds_toArray, List.set_cons_zero, List.set_cons_succ]
          refine wp_val (by rfl) (.bool true) (by go_simp) ?_
          simp only [Act.put, List.setIfInBounds_toArray, List.set_cons_zero, List.set_cons_succ]
          refine wp_val (by rfl) (.bool true) (by go_simp) ?_
          simp only [Act.put, List.setIfInBounds_toArray, List.set_cons_zero, List.set_cons_succ]
          refine wp_val (by rfl) (BB.val hB) (run_load_msg rfl (by rfl) (hB5.ext (msg_ne _ _) hx6 (fun h => h))) ?_
          simp only [Act.put, List.setIfInBounds_toArray, List.set_cons_zero, List.set_cons_succ]
          refine wp_val (by rfl) (M.val hA) (run_load_msg rfl (by rfl) (hA5.ext (msg_ne _ _) hx6 (fun h => h))) ?_
          simp only [Act.put, List.setIfInBounds_toArray, List.set_cons_zero, List.set_cons_succ]
          go_wp2_with fail
          refine (wisame_any w6 BB M hB hA (hMB.no hx6) (hMA.no hx6) hTw.symm hSh').mono ?_
          rintro e w7 ⟨r, rfl, hr, hx7⟩
          have hP' : sameP BB M ↔ true = false := ⟨fun q => hP.1 (sameP_symm hTw.kd.symm q), fun q => sameP_symm hTw.kd (hP.2 q)⟩
          obtain rfl := notD hr hP'
          clear hr hP'
          go_wp2_with fail
          go_ret
          exact ⟨by simp, hxx3.comp ((hxx5.comp hx6).comp hx7)⟩
        | false =>
          go_upto_region 35 with fail
          have hB5 := hT.bB.put 2 (.int .i64 (wrap64 (M.req + 1))) (by show 2 < 25; omega) (ds := ({ M with req := wrap64 (M.req + 1) } : MsgR).cells hB) rfl
          have hx5 := Ext.at w4 gb 2 (.int .i64 (wrap64 (M.req + 1)))
          generalize w4.setCell ⟨gb, 2, none⟩ (.int .i64 (wrap64 (M.req + 1))) = w5 at *
          have hxx5 := hT.x.fresh hx5 hT.lb
          have hA5 := hT.bA.ext (msg_ne _ _) hx5 (fun e => by have e : ga = gb := e; omega)
          have hMA := hT.kA _ w5 hx5 (fun k e => .inl e) (hin3.no hxx5)
          have q := hT.kB _ w5 M.subs hx5 (fun k e => .inl e) hni.sb (blk_rd (hT.bS.ext (by rw [hss]; simp [bls]) hx5 (fun e => by have e : gB = gb := e; omega))) (hin3.no hxx5)
          obtain ⟨BB, hBB⟩ : ∃ BB, BB = ({ M with req := wrap64 (M.req + 1) } : MsgR) := ⟨_, rfl⟩
          have hMB : BB.In w5 hB := by rw [hBB]; exact ⟨q.b, q.c, q.r, q.o, q.bl, q.bm, q.ol, q.om⟩
          have hTw : Twin M BB := by rw [hBB]; exact ⟨rfl, hni.kd, rfl, rfl, rfl, rfl, rfl, rfl, rfl⟩
          have hSh := nice_short hni
          have hSh' : Short BB := by rw [hBB]; have q := hSh; exact ⟨q.cw, q.co, q.cd, q.rs, q.ri, q.ru, q.mo, q.md, q.sb⟩
          have hS' := same1 M (wrap64 (M.req + 1)) (w64_ne _ hni.ok.req)
          rw [← hBB] at hS' hB5
          clear hBB q
          have hP : sameP M BB ↔ b5 = false := by rw [hS', ← e5]; have n2 : ¬ M.kind = 2 := (by simpa using e2); simp [n2]
          clear hS'
          clear e2 e5 hT
          refine wp_region_lit ?_
          refine wp_load_msg (m := M) (h := hA) rfl rfl (by rfl) hA5 ?_
          simp only [Act.put, List.setIfInBounds_toArray, List.set_cons_zero, List.set_cons_succ]
          refine wp_load_msg (m := BB) (h := hB) rfl rfl (by rfl) hB5 ?_
          simp only [Act.put, List.setIfInBounds_toArray, List.set_cons_zero, List.set_cons_succ]
          go_wp2_with fail
          refine (wisame_any w5 M BB hA hB hMA hMB hTw hSh).mono ?_
          rintro e w6 ⟨r, rfl, hr, hx6⟩
          obtain rfl := notD hr hP
          clear hr
          rename_i hK
          dsimp only
          refine hK _ _ ?_
          clear hK
          refine wp_val (by rfl) (.bool b5) (by go_simp) ?_
          simp only [Act.put, List.setIfInBounds_toArray, List.set_cons_zero, List.set_cons_succ]
          refine wp_val (by rfl) (.bool (!b5)) (by go_simp) ?_
          simp only [Act.put, List.setIfInBounds_toArray, List.set_cons_zero, List.set_cons_succ]
          refine wp_val (by rfl) (.bool true) (by go_simp) ?_
          simp only [Act.put, List.setIfInBounds_toArray, List.set_cons_zero, List.set_cons_succ]
          refine wp_val (by rfl) (.bool true) (by go_simp) ?_
          simp only [Act.put, List.setIfInBounds_toArray, List.set_cons_zero, List.set_cons_succ]
          refine wp_val (by rfl) (BB.val hB) (run_load_msg rfl (by rfl) (hB5.ext (msg_ne _ _) hx6 (fun h => h))) ?_
          simp only [Act.put, List.setIfInBounds_toArray, List.set_cons_zero, List.set_cons_succ]
          refine wp_val (by rfl) (M.val hA) (run_load_msg rfl (by rfl) (hA5.ext (msg_ne _ _) hx6 (fun h => h))) ?_
          simp only [Act.put, List.setIfInBounds_toArray, List.set_cons_zero, List.set_cons_succ]
          go_wp2_with fail
          refine (wisame_any w6 BB M hB hA (hMB.no hx6) (hMA.no hx6) hTw.symm hSh').mono ?_
          rintro e w7 ⟨r, rfl, hr, hx7⟩
          have hP' : sameP BB M ↔ b5 = false := ⟨fun q => hP.1 (sameP_symm hTw.kd.symm q), fun q => sameP_symm hTw.kd (hP.2 q)⟩
          obtain rfl := notD hr hP'
          clear hr hP'
          go_wp2_with fail
          go_ret
          exact ⟨by simp, hxx3.comp ((hxx5.comp hx6).comp hx7)⟩
      · have y4 : w4.cell? ⟨gb, 4, none⟩ = some (.int .i64 M.pos) := hT.bB.cell 4 _ rfl
        have f4 := hT.bB.fr 4
        obtain ⟨b2, e2⟩ : ∃ b, (M.kind == (2 : Int)) = b := ⟨_, rfl⟩
        obtain ⟨b3, e3⟩ : ∃ b, (M.kind == (3 : Int)) = b := ⟨_, rfl⟩
        obtain ⟨b4, e4⟩ : ∃ b, (M.kind == (4 : Int)) = b := ⟨_, rfl⟩
        cases b2 with
        | true =>
          go_upto_region 35 with fail
          have hB5 := hT.bB.put 4 (.int .i64 (wrap64 (M.pos + 1))) (by show 4 < 25; omega) (ds := ({ M with pos := wrap64 (M.pos + 1) } : MsgR).cells hB) rfl
          have hx5 := Ext.at w4 gb 4 (.int .i64 (wrap64 (M.pos + 1)))
          generalize w4.setCell ⟨gb, 4, none⟩ (.int .i64 (wrap64 (M.pos + 1))) = w5 at *
          have hxx5 := hT.x.fresh hx5 hT.lb
          have hA5 := hT.bA.ext (msg_ne _ _) hx5 (fun e => by have e : ga = gb := e; omega)
          have hMA := hT.kA _ w5 hx5 (fun k e => .inl e) (hin3.no hxx5)
          have q := hT.kB _ w5 M.subs hx5 (fun k e => .inl e) hni.sb (blk_rd (hT.bS.ext (by rw [hss]; simp [bls]) hx5 (fun e => by have e : gB = gb := e; omega))) (hin3.no hxx5)
          obtain ⟨BB, hBB⟩ : ∃ BB, BB = ({ M with pos := wrap64 (M.pos + 1) } : MsgR) := ⟨_, rfl⟩
          have hMB : BB.In w5 hB := by rw [hBB]; exact ⟨q.b, q.c, q.r, q.o, q.bl, q.bm, q.ol, q.om⟩
          have hTw : Twin M BB := by rw [hBB]; exact ⟨rfl, hni.kd, rfl, rfl, rfl, rfl, rfl, rfl, rfl⟩
          have hSh := nice_short hni
          have hSh' : Short BB := by rw [hBB]; have q := hSh; exact ⟨q.cw, q.co, q.cd, q.rs, q.ri, q.ru, q.mo, q.md, q.sb⟩
          have hS' := same2 M (wrap64 (M.pos + 1)) (w64_ne _ hni.ok.pos)
          rw [← hBB] at hS' hB5
          clear hBB q
          have hP : sameP M BB ↔ true = false := by rw [hS']; have n2 : M.kind = 2 := (by simpa using e2); simp [n2]
          clear hS'
          clear e2 e3 e4 hT
          refine wp_region_lit ?_
          refine wp_load_msg (m := M) (h := hA) rfl rfl (by rfl) hA5 ?_
          simp only [Act.put, List.setIfInBounds_toArray, List.set_cons_zero, List.set_cons_succ]
          refine wp_load_msg (m := BB) (h := hB) rfl rfl (by rfl) hB5 ?_
          simp only [Act.put, List.setIfInBounds_toArray, List.set_cons_zero, List.set_cons_succ]
          go_wp2_with fail
          refine (wisame_any w5 M BB hA hB hMA hMB hTw hSh).mono ?_
          rintro e w6 ⟨r, rfl, hr, hx6⟩
          obtain rfl := notD hr hP
          clear hr
          rename_i hK
          dsimp only
          refine hK _ _ ?_
          clear hK
          refine wp_val (by rfl) (.bool true) (by go_simp) ?_
          simp only [Act.put, List.setIfInBounds_toArray, List.set_cons_zero, List.set_cons_succ]
          refine wp_val (by rfl) (.bool (!true)) (by go_simp) ?_
          simp only [Act.put, List.setIfInBounds_toArray, List.set_cons_zero, List.set_cons_succ]
          refine wp_val (by rfl) (.bool true) (by go_simp) ?_
          simp only [Act.put, List.setIfInBounds_toArray, List.set_cons_zero, List.set_cons_succ]
          refine wp_val (by rfl) (.bool true) (by go_simp) ?_
          simp only [Act.put, List.setIfInBounds_toArray, List.set_cons_zero, List.set_cons_succ]
          refine wp_val (by rfl) (BB.val hB) (run_load_msg rfl (by rfl) (hB5.ext (msg_ne _ _) hx6 (fun h => h))) ?_
          simp only [Act.put, List.setIfInBounds_toArray, List.set_cons_zero, List.set_cons_succ]
          refine wp_val (by rfl) (M.val hA) (run_load_msg rfl (by rfl) (hA5.ext (msg_ne _ _) hx6 (fun h => h))) ?_
          simp only [Act.put, List.setIfInBounds_toArray, List.set_cons_zero, List.set_cons_succ]
          go_wp2_with fail
          refine (wisame_any w6 BB M hB hA (hMB.no hx6) (hMA.no hx6) hTw.symm hSh').mono ?_
          rintro e w7 ⟨r, rfl, hr, hx7⟩
          have hP' : sameP BB M ↔ true = false := ⟨fun q => hP.1 (sameP_symm hTw.kd.symm q), fun q => sameP_symm hTw.kd (hP.2 q)⟩
          obtain rfl := notD hr hP'
          clear hr hP'
          go_wp2_with fail
          go_ret
          exact ⟨by simp, hxx3.comp ((hxx5.comp hx6).comp hx7)⟩
        | false =>
          cases b3 with
          | true =>
            go_upto_region 35 with fail
            have hB5 := hT.bB.put 4 (.int .i64 (wrap64 (M.pos + 1))) (by show 4 < 25; omega) (ds := ({ M with pos := wrap64 (M.pos + 1) } : MsgR).cells hB) rfl
            have hx5 := Ext.at w4 gb 4 (.int .i64 (wrap64 (M.pos + 1)))
            generalize w4.setCell ⟨gb, 4, none⟩ (.int .i64 (wrap64 (M.pos + 1))) = w5 at *
            have hxx5 := hT.x.fresh hx5 hT.lb
            have hA5 := hT.bA.ext (msg_ne _ _) hx5 (fun e => by have e : ga = gb := e; omega)
            have hMA := hT.kA _ w5 hx5 (fun k e => .inl e) (hin3.no hxx5)
            have q := hT.kB _ w5 M.subs hx5 (fun k e => .inl e) hni.sb (blk_rd (hT.bS.ext (by rw [hss]; simp [bls]) hx5 (fun e => by have e : gB = gb := e; omega))) (hin3.no hxx5)
            obtain ⟨BB, hBB⟩ : ∃ BB, BB = ({ M with pos := wrap64 (M.pos + 1) } : MsgR) := ⟨_, rfl⟩
            have hMB : BB.In w5 hB := by rw [hBB]; exact ⟨q.b, q.c, q.r, q.o, q.bl, q.bm, q.ol, q.om⟩
            have hTw : Twin M BB := by rw [hBB]; exact ⟨rfl, hni.kd, rfl, rfl, rfl, rfl, rfl, rfl, rfl⟩
            have hSh := nice_short hni
            have hSh' : Short BB := by rw [hBB]; have q := hSh; exact ⟨q.cw, q.co, q.cd, q.rs, q.ri, q.ru, q.mo, q.md, q.sb⟩
            have hS' := same2 M (wrap64 (M.pos + 1)) (w64_ne _ hni.ok.pos)
            rw [← hBB] at hS' hB5
            clear hBB q
            have hP : sameP M BB ↔ true = false := by rw [hS']; have n3 : M.kind = 3 := (by simpa using e3); simp [n3]
            clear hS'
            clear e2 e3 e4 hT
            refine wp_region_lit ?_
            refine wp_load_msg (m := M) (h := hA) rfl rfl (by rfl) hA5 ?_
            simp only [Act.put, List.setIfInBounds_toArray, List.set_cons_zero, List.set_cons_succ]
            refine wp_load_msg (m := BB) (h := hB) rfl rfl (by rfl) hB5 ?_
            simp only [Act.put, List.setIfInBounds_toArray, List.set_cons_zero, List.set_cons_succ]
            go_wp2_with fail
            refine (wisame_any w5 M BB hA hB hMA hMB hTw hSh).mono ?_
            rintro e w6 ⟨r, rfl, hr, hx6⟩
            obtain rfl := notD hr hP
            clear hr
            rename_i hK
            dsimp only
            refine hK _ _ ?_
            clear hK
            refine wp_val (by rfl) (.bool true) (by go_simp) ?_
            simp only [Act.put, List.setIfInBounds_toArray, List.set_cons_zero, List.set_cons_succ]
            refine wp_val (by rfl) (.bool (!true)) (by go_simp) ?_
            simp only [Act.put, List.setIfInBounds_toArray, List.set_cons_zero, List.set_cons_succ]
            refine wp_val (by rfl) (.bool true) (by go_simp) ?_
            simp only [Act.put, List.setIfInBounds_toArray, List.set_cons_zero, List.set_cons_succ]
            refine wp_val (by rfl) (.bool true) (by go_simp) ?_
            simp only [Act.put, List.setIfInBounds_toArray, List.set_cons_zero, List.set_cons_succ]
            refine wp_val (by rfl) (BB.val hB) (run_load_msg rfl (by rfl) (hB5.ext (msg_ne _ _) hx6 (fun h => h))) ?_
            simp only [Act.put, List.setIfInBounds_toArray, List.set_cons_zero, List.set_cons_succ]
            refine wp_val (by rfl) (M.val hA) (run_load_msg rfl (by rfl) (hA5.ext (msg_ne _ _) hx6 (fun h => h))) ?_
            simp only [Act.put, List.setIfInBounds_toArray, List.set_cons_zero, List.set_cons_succ]
            go_wp2_with fail
            refine (wisame_any w6 BB M hB hA (hMB.no hx6) (hMA.no hx6) hTw.symm hSh').mono ?_
            rintro e w7 ⟨r, rfl, hr, hx7⟩
            have hP' : sameP BB M ↔ true = false := ⟨fun q => hP.1 (sameP_symm hTw.kd.symm q), fun q => sameP_symm hTw.kd (hP.2 q)⟩
            obtain rfl := notD hr hP'
            clear hr hP'
            go_wp2_with fail
            go_ret
            exact ⟨by simp, hxx3.comp ((hxx5.comp hx6).comp hx7)⟩
          | false =>
            go_upto_region 35 with fail
            have hB5 := hT.bB.put 4 (.int .i64 (wrap64 (M.pos + 1))) (by show 4 < 25; omega) (ds := ({ M with pos := wrap64 (M.pos + 1) } : MsgR).cells hB) rfl
            have hx5 := Ext.at w4 gb 4 (.int .i64 (wrap64 (M.pos + 1)))
            generalize w4.setCell ⟨gb, 4, none⟩ (.int .i64 (wrap64 (M.pos + 1))) = w5 at *
            have hxx5 := hT.x.fresh hx5 hT.lb
            have hA5 := hT.bA.ext (msg_ne _ _) hx5 (fun e => by have e : ga = gb := e; omega)
            have hMA := hT.kA _ w5 hx5 (fun k e => .inl e) (hin3.no hxx5)
            have q := hT.kB _ w5 M.subs hx5 (fun k e => .inl e) hni.sb (blk_rd (hT.bS.ext (by rw [hss]; simp [bls]) hx5 (fun e => by have e : gB = gb := e; omega))) (hin3.no hxx5)
            obtain ⟨BB, hBB⟩ : ∃ BB, BB = ({ M with pos := wrap64 (M.pos + 1) } : MsgR) := ⟨_, rfl⟩
            have hMB : BB.In w5 hB := by rw [hBB]; exact ⟨q.b, q.c, q.r, q.o, q.bl, q.bm, q.ol, q.om⟩
            have hTw : Twin M BB := by rw [hBB]; exact ⟨rfl, hni.kd, rfl, rfl, rfl, rfl, rfl, rfl, rfl⟩
            have hSh := nice_short hni
            have hSh' : Short BB := by rw [hBB]; have q := hSh; exact ⟨q.cw, q.co, q.cd, q.rs, q.ri, q.ru, q.mo, q.md, q.sb⟩
            have hS' := same2 M (wrap64 (M.pos + 1)) (w64_ne _ hni.ok.pos)
            rw [← hBB] at hS' hB5
            clear hBB q
            have hP : sameP M BB ↔ b4 = false := by rw [hS', ← e4]; have n2 : ¬ M.kind = 2 := (by simpa using e2); have n3 : ¬ M.kind = 3 := (by simpa using e3); simp [n2, n3]
            clear hS'
            clear e2 e3 e4 hT
            refine wp_region_lit ?_
            refine wp_load_msg (m := M) (h := hA) rfl rfl (by rfl) hA5 ?_
            simp only [Act.put, List.setIfInBounds_toArray, List.set_cons_zero, List.set_cons_succ]
            refine wp_load_msg (m := BB) (h := hB) rfl rfl (by rfl) hB5 ?_
            simp only [Act.put, List.setIfInBounds_toArray, List.set_cons_zero, List.set_cons_succ]
            go_wp2_with fail
            refine (wisame_any w5 M BB hA hB hMA hMB hTw hSh).mono ?_
            rintro e w6 ⟨r, rfl, hr, hx6⟩
            obtain rfl := notD hr hP
            clear hr
            rename_i hK
            dsimp only
            refine hK _ _ ?_
            clear hK
            refine wp_val (by rfl) (.bool b4) (by go_simp) ?_
            simp only [Act.put, List.setIfInBounds_toArray, List.set_cons_zero, List.set_cons_succ]
            refine wp_val (by rfl) (.bool (!b4)) (by go_simp) ?_
            simp only [Act.put, List.setIfInBounds_toArray, List.set_cons_zero, List.set_cons_succ]
            refine wp_val (by rfl) (.bool true) (by go_simp) ?_
            simp only [Act.put, List.setIfInBounds_toArray, List.set_cons_zero, List.set_cons_succ]
            refine wp_val (by rfl) (.bool true) (by go_simp) ?_
            simp only [Act.put, List.setIfInBounds_toArray, List.set_cons_zero, List.set_cons_succ]
            refine wp_val (by rfl) (BB.val hB) (run_load_msg rfl (by rfl) (hB5.ext (msg_ne _ _) hx6 (fun h => h))) ?_
            simp only [Act.put, List.setIfInBounds_toArray, List.set_cons_zero, List.set_cons_succ]
            refine wp_val (by rfl) (M.val hA) (run_load_msg rfl (by rfl) (hA5.ext (msg_ne _ _) hx6 (fun h => h))) ?_
            simp only [Act.put, List.setIfInBounds_toArray, List.set_cons_zero, List.set_cons_succ]
            go_wp2_with fail
            refine (wisame_any w6 BB M hB hA (hMB.no hx6) (hMA.no hx6) hTw.symm hSh').mono ?_
            rintro e w7 ⟨r, rfl, hr, hx7⟩
            have hP' : sameP BB M ↔ b4 = false := ⟨fun q => hP.1 (sameP_symm hTw.kd.symm q), fun q => sameP_symm hTw.kd (hP.2 q)⟩
            obtain rfl := notD hr hP'
            clear hr hP'
            go_wp2_with fail
            go_ret
            exact ⟨by simp, hxx3.comp ((hxx5.comp hx6).comp hx7)⟩
      · have y3 : w4.cell? ⟨gb, 3, none⟩ = some (.int .i64 M.ver) := hT.bB.cell 3 _ rfl
        have f3 := hT.bB.fr 3
        obtain ⟨b3, e3⟩ : ∃ b, (M.kind == (3 : Int)) = b := ⟨_, rfl⟩
        go_upto_region 35 with fail
        have hB5 := hT.bB.put 3 (.int .i64 (wrap64 (M.ver + 1))) (by show 3 < 25; omega) (ds := ({ M with ver := wrap64 (M.ver + 1) } : MsgR).cells hB) rfl
        have hx5 := Ext.at w4 gb 3 (.int .i64 (wrap64 (M.ver + 1)))
        generalize w4.setCell ⟨gb, 3, none⟩ (.int .i64 (wrap64 (M.ver + 1))) = w5 at *
        have hxx5 := hT.x.fresh hx5 hT.lb
        have hA5 := hT.bA.ext (msg_ne _ _) hx5 (fun e => by have e : ga = gb := e; omega)
        have hMA := hT.kA _ w5 hx5 (fun k e => .inl e) (hin3.no hxx5)
        have q := hT.kB _ w5 M.subs hx5 (fun k e => .inl e) hni.sb (blk_rd (hT.bS.ext (by rw [hss]; simp [bls]) hx5 (fun e => by have e : gB = gb := e; omega))) (hin3.no hxx5)
        obtain ⟨BB, hBB⟩ : ∃ BB, BB = ({ M with ver := wrap64 (M.ver + 1) } : MsgR) := ⟨_, rfl⟩
        have hMB : BB.In w5 hB := by rw [hBB]; exact ⟨q.b, q.c, q.r, q.o, q.bl, q.bm, q.ol, q.om⟩
        have hTw : Twin M BB := by rw [hBB]; exact ⟨rfl, hni.kd, rfl, rfl, rfl, rfl, rfl, rfl, rfl⟩
        have hSh := nice_short hni
        have hSh' : Short BB := by rw [hBB]; have q := hSh; exact ⟨q.cw, q.co, q.cd, q.rs, q.ri, q.ru, q.mo, q.md, q.sb⟩
        have hS' := same3 M (wrap64 (M.ver + 1)) (w64_ne _ hni.ok.ver)
        rw [← hBB] at hS' hB5
        clear hBB q
        have hP : sameP M BB ↔ b3 = false := by rw [hS', ← e3]; simp
        clear hS'
        clear e3 hT
        refine wp_region_lit ?_
        refine wp_load_msg (m := M) (h := hA) rfl rfl (by rfl) hA5 ?_
        simp only [Act.put, List.setIfInBounds_toArray, List.set_cons_zero, List.set_cons_succ]
        refine wp_load_msg (m := BB) (h := hB) rfl rfl (by rfl) hB5 ?_
        simp only [Act.put, List.setIfInBounds_toArray, List.set_cons_zero, List.set_cons_succ]
        go_wp2_with fail
        refine (wisame_any w5 M BB hA hB hMA hMB hTw hSh).mono ?_
        rintro e w6 ⟨r, rfl, hr, hx6⟩
        obtain rfl := notD hr hP
        clear hr
        rename_i hK
        dsimp only
        refine hK _ _ ?_
        clear hK
        refine wp_val (by rfl) (.bool b3) (by go_simp) ?_
        simp only [Act.put, List.setIfInBounds_toArray, List.set_cons_zero, List.set_cons_succ]
        refine wp_val (by rfl) (.bool (!b3)) (by go_simp) ?_
        simp only [Act.put, List.setIfInBounds_toArray, List.set_cons_zero, List.set_cons_succ]
        refine wp_val (by rfl) (.bool true) (by go_simp) ?_
        simp only [Act.put, List.setIfInBounds_toArray, List.set_cons_zero, List.set_cons_succ]
        refine wp_val (by rfl) (.bool true) (by go_simp) ?_
        simp only [Act.put, List.setIfInBounds_toArray, List.set_cons_zero, List.set_cons_succ]
        refine wp_val (by rfl) (BB.val hB) (run_load_msg rfl (by rfl) (hB5.ext (msg_ne _ _) hx6 (fun h => h))) ?_
        simp only [Act.put, List.setIfInBounds_toArray, List.set_cons_zero, List.set_cons_succ]
        refine wp_val (by rfl) (M.val hA) (run_load_msg rfl (by rfl) (hA5.ext (msg_ne _ _) hx6 (fun h => h))) ?_
        simp only [Act.put, List.setIfInBounds_toArray, List.set_cons_zero, List.set_cons_succ]
        go_wp2_with fail
        refine (wisame_any w6 BB M hB hA (hMB.no hx6) (hMA.no hx6) hTw.symm hSh').mono ?_
        rintro e w7 ⟨r, rfl, hr, hx7⟩
        have hP' : sameP BB M ↔ b3 = false := ⟨fun q => hP.1 (sameP_symm hTw.kd.symm q), fun q => sameP_symm hTw.kd (hP.2 q)⟩
        obtain rfl := notD hr hP'
        clear hr hP'
        go_wp2_with fail
        go_ret
        exact ⟨by simp, hxx3.comp ((hxx5.comp hx6).comp hx7)⟩
      · have y5 : w4.cell? ⟨gb, 5, none⟩ = some (.int .i64 M.nxt) := hT.bB.cell 5 _ rfl
        have f5 := hT.bB.fr 5
        obtain ⟨b4, e4⟩ : ∃ b, (M.kind == (4 : Int)) = b := ⟨_, rfl⟩
        go_upto_region 35 with fail
        have hB5 := hT.bB.put 5 (.int .i64 (wrap64 (M.nxt + 1))) (by show 5 < 25; omega) (ds := ({ M with nxt := wrap64 (M.nxt + 1) } : MsgR).cells hB) rfl
        have hx5 := Ext.at w4 gb 5 (.int .i64 (wrap64 (M.nxt + 1)))
        generalize w4.setCell ⟨gb, 5, none⟩ (.int .i64 (wrap64 (M.nxt + 1))) = w5 at *
        have hxx5 := hT.x.fresh hx5 hT.lb
        have hA5 := hT.bA.ext (msg_ne _ _) hx5 (fun e => by have e : ga = gb := e; omega)
        have hMA := hT.kA _ w5 hx5 (fun k e => .inl e) (hin3.no hxx5)
        have q := hT.kB _ w5 M.subs hx5 (fun k e => .inl e) hni.sb (blk_rd (hT.bS.ext (by rw [hss]; simp [bls]) hx5 (fun e => by have e : gB = gb := e; omega))) (hin3.no hxx5)
        obtain ⟨BB, hBB⟩ : ∃ BB, BB = ({ M with nxt := wrap64 (M.nxt + 1) } : MsgR) := ⟨_, rfl⟩
        have hMB : BB.In w5 hB := by rw [hBB]; exact ⟨q.b, q.c, q.r, q.o, q.bl, q.bm, q.ol, q.om⟩
        have hTw : Twin M BB := by rw [hBB]; exact ⟨rfl, hni.kd, rfl, rfl, rfl, rfl, rfl, rfl, rfl⟩
        have hSh := nice_short hni
        have hSh' : Short BB := by rw [hBB]; have q := hSh; exact ⟨q.cw, q.co, q.cd, q.rs, q.ri, q.ru, q.mo, q.md, q.sb⟩
        have hS' := same4 M (wrap64 (M.nxt + 1)) (w64_ne _ hni.ok.nxt)
        rw [← hBB] at hS' hB5
        clear hBB q
        have hP : sameP M BB ↔ b4 = false := by rw [hS', ← e4]; simp
        clear hS'
        clear e4 hT
        refine wp_region_lit ?_
        refine wp_load_msg (m := M) (h := hA) rfl rfl (by rfl) hA5 ?_
        simp only [Act.put, List.setIfInBounds_toArray, List.set_cons_zero, List.set_cons_succ]
        refine wp_load_msg (m := BB) (h := hB) rfl rfl (by rfl) hB5 ?_
        simp only [Act.put, List.setIfInBounds_toArray, List.set_cons_zero, List.set_cons_succ]
        go_wp2_with fail
        refine (wisame_any w5 M BB hA hB hMA hMB hTw hSh).mono ?_
        rintro e w6 ⟨r, rfl, hr, hx6⟩
        obtain rfl := notD hr hP
        clear hr
        rename_i hK
        dsimp only
        refine hK _ _ ?_
        clear hK
        refine wp_val (by rfl) (.bool b4) (by go_simp) ?_
        simp only [Act.put, List.setIfInBounds_toArray, List.set_cons_zero, List.set_cons_succ]
        refine wp_val (by rfl) (.bool (!b4)) (by go_simp) ?_
        simp only [Act.put, List.setIfInBounds_toArray, List.set_cons_zero, List.set_cons_succ]
        refine wp_val (by rfl) (.bool true) (by go_simp) ?_
        simp only [Act.put, List.setIfInBounds_toArray, List.set_cons_zero, List.set_cons_succ]
        refine wp_val (by rfl) (.bool true) (by go_simp) ?_
        simp only [Act.put, List.setIfInBounds_toArray, List.set_cons_zero, List.set_cons_succ]
        refine wp_val (by rfl) (BB.val hB) (run_load_msg rfl (by rfl) (hB5.ext (msg_ne _ _) hx6 (fun h => h))) ?_
        simp only [Act.put, List.setIfInBounds_toArray, List.set_cons_zero, List.set_cons_succ]
        refine wp_val (by rfl) (M.val hA) (run_load_msg rfl (by rfl) (hA5.ext (msg_ne _ _) hx6 (fun h => h))) ?_
        simp only [Act.put, List.setIfInBounds_toArray, List.set_cons_zero, List.set_cons_succ]
        go_wp2_with fail
        refine (wisame_any w6 BB M hB hA (hMB.no hx6) (hMA.no hx6) hTw.symm hSh').mono ?_
        rintro e w7 ⟨r, rfl, hr, hx7⟩
        have hP' : sameP BB M ↔ b4 = false := ⟨fun q => hP.1 (sameP_symm hTw.kd.symm q), fun q => sameP_symm hTw.kd (hP.2 q)⟩
        obtain rfl := notD hr hP'
        clear hr hP'
        go_wp2_with fail
        go_ret
        exact ⟨by simp, hxx3.comp ((hxx5.comp hx6).comp hx7)⟩
      · have y12 : w4.cell? ⟨gb, 12, none⟩ = some (.int .i64 M.cmd.n) := hT.bB.cell 12 _ rfl
        have f12 := hT.bB.fr 12
        obtain ⟨b1, e1⟩ : ∃ b, (M.kind == (1 : Int)) = b := ⟨_, rfl⟩
        go_upto_region 35 with fail
        have hB5 := hT.bB.put 12 (.int .i64 (wrap64 (M.cmd.n + 1))) (by show 12 < 25; omega) (ds := ({ M with cmd := { M.cmd with n := wrap64 (M.cmd.n + 1) } } : MsgR).cells hB) rfl
        have hx5 := Ext.at w4 gb 12 (.int .i64 (wrap64 (M.cmd.n + 1)))
        generalize w4.setCell ⟨gb, 12, none⟩ (.int .i64 (wrap64 (M.cmd.n + 1))) = w5 at *
        have hxx5 := hT.x.fresh hx5 hT.lb
        have hA5 := hT.bA.ext (msg_ne _ _) hx5 (fun e => by have e : ga = gb := e; omega)
        have hMA := hT.kA _ w5 hx5 (fun k e => .inl e) (hin3.no hxx5)
        have q := hT.kB _ w5 M.subs hx5 (fun k e => .inl e) hni.sb (blk_rd (hT.bS.ext (by rw [hss]; simp [bls]) hx5 (fun e => by have e : gB = gb := e; omega))) (hin3.no hxx5)
        obtain ⟨BB, hBB⟩ : ∃ BB, BB = ({ M with cmd := { M.cmd with n := wrap64 (M.cmd.n + 1) } } : MsgR) := ⟨_, rfl⟩
        have hMB : BB.In w5 hB := by rw [hBB]; exact ⟨q.b, ⟨q.c.x, q.c.o, q.c.wl, q.c.ol, q.c.wm, q.c.om⟩, q.r, q.o, q.bl, q.bm, q.ol, q.om⟩
        have hTw : Twin M BB := by rw [hBB]; exact ⟨rfl, hni.kd, rfl, rfl, rfl, rfl, rfl, rfl, rfl⟩
        have hSh := nice_short hni
        have hSh' : Short BB := by rw [hBB]; have q := hSh; exact ⟨q.cw, q.co, q.cd, q.rs, q.ri, q.ru, q.mo, q.md, q.sb⟩
        have hS' := same5 M (wrap64 (M.cmd.n + 1)) (w64_ne _ hni.ok.cmd.n)
        rw [← hBB] at hS' hB5
        clear hBB q
        have hP : sameP M BB ↔ b1 = false := by rw [hS', ← e1]; simp
        clear hS'
        clear e1 hT
        refine wp_region_lit ?_
        refine wp_load_msg (m := M) (h := hA) rfl rfl (by rfl) hA5 ?_
        simp only [Act.put, List.setIfInBounds_toArray, List.set_cons_zero, List.set_cons_succ]
        refine wp_load_msg (m := BB) (h := hB) rfl rfl (by rfl) hB5 ?_
        simp only [Act.put, List.setIfInBounds_toArray, List.set_cons_zero, List.set_cons_succ]
        go_wp2_with fail
        refine (wisame_any w5 M BB hA hB hMA hMB hTw hSh).mono ?_
        rintro e w6 ⟨r, rfl, hr, hx6⟩
        obtain rfl := notD hr hP
        clear hr
        rename_i hK
        dsimp only
        refine hK _ _ ?_
        clear hK
        refine wp_val (by rfl) (.bool b1) (by go_simp) ?_
        simp only [Act.put, List.setIfInBounds_toArray, List.set_cons_zero, List.set_cons_succ]
        refine wp_val (by rfl) (.bool (!b1)) (by go_simp) ?_
        simp only [Act.put, List.setIfInBounds_toArray, List.set_cons_zero, List.set_cons_succ]
        refine wp_val (by rfl) (.bool true) (by go_simp) ?_
        simp only [Act.put, List.setIfInBounds_toArray, List.set_cons_zero, List.set_cons_succ]
        refine wp_val (by rfl) (.bool true) (by go_simp) ?_
        simp only [Act.put, List.setIfInBounds_toArray, List.set_cons_zero, List.set_cons_succ]
        refine wp_val (by rfl) (BB.val hB) (run_load_msg rfl (by rfl) (hB5.ext (msg_ne _ _) hx6 (fun h => h))) ?_
        simp only [Act.put, List.setIfInBounds_toArray, List.set_cons_zero, List.set_cons_succ]
        refine wp_val (by rfl) (M.val hA) (run_load_msg rfl (by rfl) (hA5.ext (msg_ne _ _) hx6 (fun h => h))) ?_
        simp only [Act.put, List.setIfInBounds_toArray, List.set_cons_zero, List.set_cons_succ]
        go_wp2_with fail
        refine (wisame_any w6 BB M hB hA (hMB.no hx6) (hMA.no hx6) hTw.symm hSh').mono ?_
        rintro e w7 ⟨r, rfl, hr, hx7⟩
        have hP' : sameP BB M ↔ b1 = false := ⟨fun q => hP.1 (sameP_symm hTw.kd.symm q), fun q => sameP_symm hTw.kd (hP.2 q)⟩
        obtain rfl := notD hr hP'
        clear hr hP'
        go_wp2_with fail
        go_ret
        exact ⟨by simp, hxx3.comp ((hxx5.comp hx6).comp hx7)⟩
      · have y19 : w4.cell? ⟨gb, 19, none⟩ = some (.int .i64 M.rep.til) := hT.bB.cell 19 _ rfl
        have f19 := hT.bB.fr 19
        obtain ⟨b2, e2⟩ : ∃ b, (M.kind == (2 : Int)) = b := ⟨_, rfl⟩
        go_upto_region 35 with fail
        have hB5 := hT.bB.put 19 (.int .i64 (wrap64 (M.rep.til + 1))) (by show 19 < 25; omega) (ds := ({ M with rep := { M.rep with til := wrap64 (M.rep.til + 1) } } : MsgR).cells hB) rfl
        have hx5 := Ext.at w4 gb 19 (.int .i64 (wrap64 (M.rep.til + 1)))
        generalize w4.setCell ⟨gb, 19, none⟩ (.int .i64 (wrap64 (M.rep.til + 1))) = w5 at *
        have hxx5 := hT.x.fresh hx5 hT.lb
        have hA5 := hT.bA.ext (msg_ne _ _) hx5 (fun e => by have e : ga = gb := e; omega)
        have hMA := hT.kA _ w5 hx5 (fun k e => .inl e) (hin3.no hxx5)
        have q := hT.kB _ w5 M.subs hx5 (fun k e => .inl e) hni.sb (blk_rd (hT.bS.ext (by rw [hss]; simp [bls]) hx5 (fun e => by have e : gB = gb := e; omega))) (hin3.no hxx5)
        obtain ⟨BB, hBB⟩ : ∃ BB, BB = ({ M with rep := { M.rep with til := wrap64 (M.rep.til + 1) } } : MsgR) := ⟨_, rfl⟩
        have hMB : BB.In w5 hB := by rw [hBB]; exact ⟨q.b, q.c, ⟨q.r.s, q.r.i, q.r.u, q.r.sl, q.r.il, q.r.ul, q.r.sm, q.r.im, q.r.um⟩, q.o, q.bl, q.bm, q.ol, q.om⟩
        have hTw : Twin M BB := by rw [hBB]; exact ⟨rfl, hni.kd, rfl, rfl, rfl, rfl, rfl, rfl, rfl⟩
        have hSh := nice_short hni
        have hSh' : Short BB := by rw [hBB]; have q := hSh; exact ⟨q.cw, q.co, q.cd, q.rs, q.ri, q.ru, q.mo, q.md, q.sb⟩
        have hS' := same6 M (wrap64 (M.rep.til + 1)) (w64_ne _ hni.ok.rep.til)
        rw [← hBB] at hS' hB5
        clear hBB q
        have hP : sameP M BB ↔ b2 = false := by rw [hS', ← e2]; simp
        clear hS'
        clear e2 hT
        refine wp_region_lit ?_
        refine wp_load_msg (m := M) (h := hA) rfl rfl (by rfl) hA5 ?_
        simp only [Act.put, List.setIfInBounds_toArray, List.set_cons_zero, List.set_cons_succ]
        refine wp_load_msg (m := BB) (h := hB) rfl rfl (by rfl) hB5 ?_
        simp only [Act.put, List.setIfInBounds_toArray, List.set_cons_zero, List.set_cons_succ]
        go_wp2_with fail
        refine (wisame_any w5 M BB hA hB hMA hMB hTw hSh).mono ?_
        rintro e w6 ⟨r, rfl, hr, hx6⟩
        obtain rfl := notD hr hP
        clear hr
        rename_i hK
        dsimp only
        refine hK _ _ ?_
        clear hK
        refine wp_val (by rfl) (.bool b2) (by go_simp) ?_
        simp only [Act.put, List.setIfInBounds_toArray, List.set_cons_zero, List.set_cons_succ]
        refine wp_val (by rfl) (.bool (!b2)) (by go_simp) ?_
        simp only [Act.put, List.setIfInBounds_toArray, List.set_cons_zero, List.set_cons_succ]
        refine wp_val (by rfl) (.bool true) (by go_simp) ?_
        simp only [Act.put, List.setIfInBounds_toArray, List.set_cons_zero, List.set_cons_succ]
        refine wp_val (by rfl) (.bool true) (by go_simp) ?_
        simp only [Act.put, List.setIfInBounds_toArray, List.set_cons_zero, List.set_cons_succ]
        refine wp_val (by rfl) (BB.val hB) (run_load_msg rfl (by rfl) (hB5.ext (msg_ne _ _) hx6 (fun h => h))) ?_
        simp only [Act.put, List.setIfInBounds_toArray, List.set_cons_zero, List.set_cons_succ]
        refine wp_val (by rfl) (M.val hA) (run_load_msg rfl (by rfl) (hA5.ext (msg_ne _ _) hx6 (fun h => h))) ?_
        simp only [Act.put, List.setIfInBounds_toArray, List.set_cons_zero, List.set_cons_succ]
        go_wp2_with fail
        refine (wisame_any w6 BB M hB hA (hMB.no hx6) (hMA.no hx6) hTw.symm hSh').mono ?_
        rintro e w7 ⟨r, rfl, hr, hx7⟩
        have hP' : sameP BB M ↔ b2 = false := ⟨fun q => hP.1 (sameP_symm hTw.kd.symm q), fun q => sameP_symm hTw.kd (hP.2 q)⟩
        obtain rfl := notD hr hP'
        clear hr hP'
        go_wp2_with fail
        go_ret
        exact ⟨by simp, hxx3.comp ((hxx5.comp hx6).comp hx7)⟩
      · have q := hT.bS
        rw [hss] at q
        have ys : w4.cell? ⟨gB, 1, none⟩ = some (.bool s1) := q.cell 1 _ rfl
        have fs := q.fr 1
        have y6 : w4.cell? ⟨gb, 6, none⟩ = some (.slice (some ⟨gB, 0, none⟩) 3 hB.bc) := by have q := hT.bB.cell 6 _ rfl; rwa [hT.sb, hni.sb] at q
        obtain ⟨b3, e3⟩ : ∃ b, (M.kind == (3 : Int)) = b := ⟨_, rfl⟩
        go_upto_region 30 with fail
        go_cut [] (fun wx => Blk wx gB [.bool s0, .bool (!s1), .bool s2] ∧ Ext (just gB) w4 wx)
        case first =>
          go_region
          all_goals (go_wp2_with fail)
          all_goals go_meet
          all_goals exact ⟨(q.put 1 (.bool (!s1)) (by simp [bls]) rfl).drew, (Ext.at w4 gB 1 _).comp (Ext.drew _ _)⟩
        case rest =>
          obtain ⟨hS5, hx5⟩ := hcut
          obtain ⟨w5, h0⟩ : ∃ v, v = wc := ⟨_, rfl⟩
          subst h0
          go_upto_region 35 with fail
          have hxx5 := hT.x.fresh hx5 hT.lS
          have hA5 := hT.bA.ext (msg_ne _ _) hx5 (fun e => by have e : ga = gB := e; omega)
          have hB5 := hT.bB.ext (msg_ne _ _) hx5 (fun e => by have e : gb = gB := e; omega)
          rw [show M.cells hB = ({ M with subs := [s0, !s1, s2] } : MsgR).cells hB by unfold MsgR.cells; rw [hss]; rfl] at hB5
          have hMA := hT.kA _ w5 hx5 (fun k e => .inr e) (hin3.no hxx5)
          have hMB := hT.kB _ w5 [s0, !s1, s2] hx5 (fun k e => .inr e) rfl (blk_rd hS5) (hin3.no hxx5)
          have hTw : Twin M ({ M with subs := [s0, !s1, s2] } : MsgR) := ⟨rfl, hni.kd, rfl, rfl, rfl, rfl, rfl, rfl, by rw [hss]; rfl⟩
          have hSh := nice_short hni
          have hSh' : Short ({ M with subs := [s0, !s1, s2] } : MsgR) := ⟨hSh.cw, hSh.co, hSh.cd, hSh.rs, hSh.ri, hSh.ru, hSh.mo, hSh.md, by show 3 ≤ 1099511627776; omega⟩
          have hS' := same7 M [s0, !s1, s2] (by rw [hss]; intro h; cases s1 <;> simp at h)
          obtain ⟨BB, hBB⟩ : ∃ BB, BB = ({ M with subs := [s0, !s1, s2] } : MsgR) := ⟨_, rfl⟩
          rw [← hBB] at hS' hB5 hMB hTw hSh'
          clear hBB
          have hP : sameP M BB ↔ b3 = false := by rw [hS', ← e3]; simp
          clear hS'
          clear e3 hT
          refine wp_region_lit ?_
          refine wp_load_msg (m := M) (h := hA) rfl rfl (by rfl) hA5 ?_
          simp only [Act.put, List.setIfInBounds_toArray, List.set_cons_zero, List.set_cons_succ]
          refine wp_load_msg (m := BB) (h := hB) rfl rfl (by rfl) hB5 ?_
          simp only [Act.put, List.setIfInBounds_toArray, List.set_cons_zero, List.set_cons_succ]
          go_wp2_with fail
          refine (wisame_any w5 M BB hA hB hMA hMB hTw hSh).mono ?_
          rintro e w6 ⟨r, rfl, hr, hx6⟩
          obtain rfl := notD hr hP
          clear hr
          rename_i hK
          dsimp only
          refine hK _ _ ?_
          clear hK
          refine wp_val (by rfl) (.bool b3) (by go_simp) ?_
          simp only [Act.put, List.setIfInBounds_toArray, List.set_cons_zero, List.set_cons_succ]
          refine wp_val (by rfl) (.bool (!b3)) (by go_simp) ?_
          simp only [Act.put, List.setIfInBounds_toArray, List.set_cons_zero, List.set_cons_succ]
          refine wp_val (by rfl) (.bool true) (by go_simp) ?_
          simp only [Act.put, List.setIfInBounds_toArray, List.set_cons_zero, List.set_cons_succ]
          refine wp_val (by rfl) (.bool true) (by go_simp) ?_
          simp only [Act.put, List.setIfInBounds_toArray, List.set_cons_zero, List.set_cons_succ]
          refine wp_val (by rfl) (BB.val hB) (run_load_msg rfl (by rfl) (hB5.ext (msg_ne _ _) hx6 (fun h => h))) ?_
          simp only [Act.put, List.setIfInBounds_toArray, List.set_cons_zero, List.set_cons_succ]
          refine wp_val (by rfl) (M.val hA) (run_load_msg rfl (by rfl) (hA5.ext (msg_ne _ _) hx6 (fun h => h))) ?_
          simp only [Act.put, List.setIfInBounds_toArray, List.set_cons_zero, List.set_cons_succ]
          go_wp2_with fail
          refine (wisame_any w6 BB M hB hA (hMB.no hx6) (hMA.no hx6) hTw.symm hSh').mono ?_
          rintro e w7 ⟨r, rfl, hr, hx7⟩
          have hP' : sameP BB M ↔ b3 = false := ⟨fun q => hP.1 (sameP_symm hTw.kd.symm q), fun q => sameP_symm hTw.kd (hP.2 q)⟩
          obtain rfl := notD hr hP'
          clear hr hP'
          go_wp2_with fail
          go_ret
          exact ⟨by simp, hxx3.comp ((hxx5.comp hx6).comp hx7)⟩
      · have he0 := hni.er.1
        have he1 := hni.er.2
        have y7 : w4.cell? ⟨gb, 7, none⟩ = some (.int .i64 M.err) := hT.bB.cell 7 _ rfl
        have f7 := hT.bB.fr 7
        obtain ⟨b5, e5⟩ : ∃ b, (M.kind == (5 : Int)) = b := ⟨_, rfl⟩
        go_upto_region 35 with fail
        have hB5 := hT.bB.put 7 (.int .i64 ((M.err + 1) % 23)) (by show 7 < 25; omega) (ds := ({ M with err := (M.err + 1) % 23 } : MsgR).cells hB) rfl
        have hx5 := Ext.at w4 gb 7 (.int .i64 ((M.err + 1) % 23))
        generalize w4.setCell ⟨gb, 7, none⟩ (.int .i64 ((M.err + 1) % 23)) = w5 at *
        have hxx5 := hT.x.fresh hx5 hT.lb
        have hA5 := hT.bA.ext (msg_ne _ _) hx5 (fun e => by have e : ga = gb := e; omega)
        have hMA := hT.kA _ w5 hx5 (fun k e => .inl e) (hin3.no hxx5)
        have q := hT.kB _ w5 M.subs hx5 (fun k e => .inl e) hni.sb (blk_rd (hT.bS.ext (by rw [hss]; simp [bls]) hx5 (fun e => by have e : gB = gb := e; omega))) (hin3.no hxx5)
        obtain ⟨BB, hBB⟩ : ∃ BB, BB = ({ M with err := (M.err + 1) % 23 } : MsgR) := ⟨_, rfl⟩
        have hMB : BB.In w5 hB := by rw [hBB]; exact ⟨q.b, q.c, q.r, q.o, q.bl, q.bm, q.ol, q.om⟩
        have hTw : Twin M BB := by rw [hBB]; exact ⟨rfl, hni.kd, rfl, rfl, rfl, rfl, rfl, rfl, rfl⟩
        have hSh := nice_short hni
        have hSh' : Short BB := by rw [hBB]; have q := hSh; exact ⟨q.cw, q.co, q.cd, q.rs, q.ri, q.ru, q.mo, q.md, q.sb⟩
        have hS' := same8 M ((M.err + 1) % 23) (by omega)
        rw [← hBB] at hS' hB5
        clear hBB q
        have hP : sameP M BB ↔ b5 = false := by rw [hS', ← e5]; simp
        clear hS'
        clear e5 hT
        refine wp_region_lit ?_
        refine wp_load_msg (m := M) (h := hA) rfl rfl (by rfl) hA5 ?_
        simp only [Act.put, List.setIfInBounds_toArray, List.set_cons_zero, List.set_cons_succ]
        refine wp_load_msg (m := BB) (h := hB) rfl rfl (by rfl) hB5 ?_
        simp only [Act.put, List.setIfInBounds_toArray, List.set_cons_zero, List.set_cons_succ]
        go_wp2_with fail
        refine (wisame_any w5 M BB hA hB hMA hMB hTw hSh).mono ?_
        rintro e w6 ⟨r, rfl, hr, hx6⟩
        obtain rfl := notD hr hP
        clear hr
        rename_i hK
        dsimp only
        refine hK _ _ ?_
        clear hK
        refine wp_val (by rfl) (.bool b5) (by go_simp) ?_
        simp only [Act.put, List.setIfInBounds_toArray, List.set_cons_zero, List.set_cons_succ]
        refine wp_val (by rfl) (.bool (!b5)) (by go_simp) ?_
        simp only [Act.put, List.setIfInBounds_toArray, List.set_cons_zero, List.set_cons_succ]
        refine wp_val (by rfl) (.bool true) (by go_simp) ?_
        simp only [Act.put, List.setIfInBounds_toArray, List.set_cons_zero, List.set_cons_succ]
        refine wp_val (by rfl) (.bool true) (by go_simp) ?_
        simp only [Act.put, List.setIfInBounds_toArray, List.set_cons_zero, List.set_cons_succ]
        refine wp_val (by rfl) (BB.val hB) (run_load_msg rfl (by rfl) (hB5.ext (msg_ne _ _) hx6 (fun h => h))) ?_
        simp only [Act.put, List.setIfInBounds_toArray, List.set_cons_zero, List.set_cons_succ]
        refine wp_val (by rfl) (M.val hA) (run_load_msg rfl (by rfl) (hA5.ext (msg_ne _ _) hx6 (fun h => h))) ?_
        simp only [Act.put, List.setIfInBounds_toArray, List.set_cons_zero, List.set_cons_succ]
        go_wp2_with fail
        refine (wisame_any w6 BB M hB hA (hMB.no hx6) (hMA.no hx6) hTw.symm hSh').mono ?_
        rintro e w7 ⟨r, rfl, hr, hx7⟩
        have hP' : sameP BB M ↔ b5 = false := ⟨fun q => hP.1 (sameP_symm hTw.kd.symm q), fun q => sameP_symm hTw.kd (hP.2 q)⟩
        obtain rfl := notD hr hP'
        clear hr hP'
        go_wp2_with fail
        go_ret
        exact ⟨by simp, hxx3.comp ((hxx5.comp hx6).comp hx7)⟩
end Go.Proofs.Ytddobhihjljcgaa
