/- TopSplit begins, asks within, and ends as the machine over numbers says, if the pieces do. -/
import Derived.Test.YteaijkhiibjopaaGreatI
import Derived.Test.YteaijkhiibjopaaGreatS
set_option linter.all false
namespace Go.Vm
open Go Go.Proofs
set_option maxRecDepth 100000
theorem krun (n : Nat) : KOk Tryz.prog gx (run n) := run_ok xok mixed_ok plans_ok h233 n
def G0 : Gh := fun b => if b = 0 then some (.val (.string ⟨#[]⟩)) else if b = 1 then some (.val (.string ⟨#[97]⟩)) else if b = 2 then some (.val (.string ⟨#[98]⟩)) else none
theorem G0_inv {b : Nat} {x : GB} (h : G0 b = some x) : (b = 0 ∧ x = .val (.string ⟨#[]⟩)) ∨ (b = 1 ∧ x = .val (.string ⟨#[97]⟩)) ∨ (b = 2 ∧ x = .val (.string ⟨#[98]⟩)) := by
 unfold G0 at h
 split at h
 ·cases h; exact .inl ⟨by assumption, rfl⟩
 ·split at h
  ·cases h; exact .inr (.inl ⟨by assumption, rfl⟩)
  ·split at h
   ·cases h; exact .inr (.inr ⟨by assumption, rfl⟩)
   ·cases h
theorem pool0 : gx.pool = [[], [97], [98]] := by kernel_rfl
theorem poolOk0 : PoolOk gx G0 := by
 intro i s h
 rw [pool0] at h
 match i, h with
 | 0, h => cases h; exact ⟨rfl, by decide, by decide⟩
 | 1, h => cases h; exact ⟨rfl, by decide, by decide⟩
 | 2, h => cases h; exact ⟨rfl, by decide, by decide⟩
 | i + 3, h => simp at h
theorem keyA {L : List (Nat × Blk)} (h : (Bool.rec (motive := fun _ => Bool) false (Bool.rec (motive := fun _ => Bool) false (keyT L 2) (keyT L 1)) (keyT L 0)) = true) : ∀ i s, gx.pool[i]? = some s → keyT L i = true := by
 obtain ⟨h1, h2⟩ := and_of' h
 obtain ⟨h3, h4⟩ := and_of' h1
 intro i s h
 rw [pool0] at h
 match i, h with
 | 0, _ => exact h2
 | 1, _ => exact h4
 | 2, _ => exact h3
 | i + 3, h => simp at h
theorem sA_0 : sA.blk 0 = .mk 1 0 0 0 0 := by kernel_rfl
theorem sA_1 : sA.blk 1 = .mk 1 1 0 0 3108 := by kernel_rfl
theorem sA_2 : sA.blk 2 = .mk 1 1 0 0 3140 := by kernel_rfl
theorem hr0 (w : World) : HR gx G0 sA w where
 cln := fun b hb => by
  rcases get_tree 17 lA b with h | ⟨p, hp, rfl⟩
  ·exact h
  ·have : p.1 = 2 ∨ p.1 = 1 ∨ p.1 = 0 := by
    have hp' : p ∈ [_, _, _] := hp
    simp only [List.mem_cons, List.not_mem_nil, or_false] at hp'
    rcases hp' with rfl | rfl | rfl
    ·exact .inl rfl
    ·exact .inr (.inl rfl)
    ·exact .inr (.inr rfl)
   have hb' : 3 ≤ p.1 := hb
   omega
 dom := fun b x h => by
  show b < 3
  rcases G0_inv h with ⟨rfl, _⟩ | ⟨rfl, _⟩ | ⟨rfl, _⟩ <;> decide
 row := fun b r δ z h => by rcases G0_inv h with ⟨_, h⟩ | ⟨_, h⟩ | ⟨_, h⟩ <;> cases h
 val := fun b v h => by
  rcases G0_inv h with ⟨rfl, h⟩ | ⟨rfl, h⟩ | ⟨rfl, h⟩
  ·cases h; rw [sA_0]; exact .inl ⟨rfl, _, rfl, rfl, fun i x h => by simp at h⟩
  ·cases h; rw [sA_1]
   refine .inl ⟨rfl, _, rfl, rfl, fun i x h => ?_⟩
   cases i with
   | zero => cases h; decide +kernel
   | succ i => simp at h
  ·cases h; rw [sA_2]
   refine .inl ⟨rfl, _, rfl, rfl, fun i x h => ?_⟩
   cases i with
   | zero => cases h; decide +kernel
   | succ i => simp at h
 obj := fun b r h => by rcases G0_inv h with ⟨_, h⟩ | ⟨_, h⟩ | ⟨_, h⟩ <;> cases h
 one := fun b b' r h => by rcases G0_inv h with ⟨_, h⟩ | ⟨_, h⟩ | ⟨_, h⟩ <;> cases h
 apart := fun b b' r δ z δ' z' n ro tip bits n' ro' tip' bits' _ h => by rcases G0_inv h with ⟨_, h⟩ | ⟨_, h⟩ | ⟨_, h⟩ <;> cases h
theorem fxq_ok : fxq.ok = true := by kernel_rfl
theorem rdT_0 (t : Nat) : (rdT fxq [] 0 t).1 = .c 0 := by
 rw [rdT_eq]
 dsimp only [lookN]
 unfold homeOf
 cases lookN t fxq.home with
 | some ow => obtain ⟨o, wd⟩ := ow; dsimp only; rw [gw_zero _ _ _ (Nat.two_pow_pos _)]
 | none => rfl
theorem at0 (w : World) (a : Go.Act) (hs : 122 ≤ a.tmps.size) (hd : a.defers = []) : At Tryz.prog gx fxq a.tmps w.heap.size w 0 sA a w := by
 refine ⟨G0, ⟨hr0 w, poolOk0, EnvOk.nil _ _, fun t _ => ?_, hs, fun _ _ => rfl, (fun o ho => by cases ho), hd⟩, ?_⟩
 ·rw [rdT_0]; exact .c _ _ (.none _)
 ·exact ⟨rfl, rfl, rfl, Nat.le_refl _, fun _ _ => rfl, fun b x r h hx => by rcases G0_inv h with ⟨_, rfl⟩ | ⟨_, rfl⟩ | ⟨_, rfl⟩ <;> cases hx⟩
theorem ths_of {r : Res} {k : Nat → St → Bool} (h : ths r k = true) : ∃ F S, r = .ok 0 F S ∧ k F S = true := by
 cases r with
 | fl => cases h
 | pn _ _ _ => cases h
 | ok e F S =>
  obtain ⟨h1, h2⟩ := and_of' (show (Bool.rec (motive := fun _ => Bool) false (k F S) (Nat.beq e 0)) = true from h)
  have := beq_iff.1 h2
  subst this
  exact ⟨F, S, rfl, h1⟩
section
variable {P : Program} {X : GX}
theorem seg_t {κ : Kap} (hX : XOk X P) (HK : KOk P X κ) (hmix : P.follows .mixedOrders = true) {fx : FX} (hok : fx.ok = true) (hrs : fx.rsl = none) {N n : Nat} {w₀ : World} {code : Code} {F : Nat} {S : St} {a : Go.Act} {w : World} {hv : Array Value}
  {k : Nat → St → Bool} (h : At P X fx hv n w₀ F S a w) (hc : ths (den X κ fx N [code] [] F S) k = true) :
  Code.wp P code (fun ex a' w' => ex = .normal ∧ ∃ F' S', At P X fx hv n w₀ F' S' a' w' ∧ k F' S' = true) a w := by
 intro b K cs
 obtain ⟨G, hi, hs⟩ := h
 obtain ⟨F', S', hr, hk⟩ := ths_of hc
 let c : Fc := ⟨{ b with tmps := hv }, fx, fun _ => cs, none⟩
 have hcok : c.Ok := ⟨hok, (fun hq => by rw [show c.fx.rsl = none from hrs] at hq; cases hq), (fun v hv => by cases hv)⟩
 have hi' : Inv X c noD G [] F S a w := hi.base rfl rfl (fun _ _ => rfl)
 have H := dop_ok hX HK
 have hden := den_sound P X κ H (draw_ok P X κ H hmix) hcok N [code] K hi' (Ext.refl G S w)
 rw [show den X κ c.fx N [code] [] F S = _ from hr, call_const] at hden
 obtain ⟨G', a', w', g1, g2, g3, g4, _⟩ := hden
 rw [call_const] at g3 g4
 exact ⟨.normal, a', w', ⟨rfl, F', S', ⟨G', g2.base rfl rfl (fun _ _ => rfl), hs.ext g1⟩, hk⟩, g3 rfl⟩
end
theorem seq_t {n : Nat} {w₀ : World} {x y : Code} {F : Nat} {S : St} {a : Go.Act} {w : World} {hv : Array Value} {k : Nat → St → Bool} {Q : Exit → Go.Act → World → Prop} (h : At Tryz.prog gx fxq hv n w₀ F S a w) (hc : ths (dn x F S) k = true)
  (hk : ∀ F' S' a' w', At Tryz.prog gx fxq hv n w₀ F' S' a' w' → k F' S' = true → Code.wp Tryz.prog y Q a' w') : Code.wp Tryz.prog (.seq x y) Q a w := by
 refine wp_seq (wp_mono (seg_t xok (krun 40) mixed_ok fxq_ok rfl h hc) ?_)
 rintro e a' w' ⟨rfl, F', S', h1, h2⟩
 exact hk F' S' a' w' h1 h2
theorem seq_c {n : Nat} {w₀ : World} {x y : Code} {F F2 d cnt : Nat} {L : List (Nat × Blk)} {S : St} {a : Go.Act} {w : World} {hv : Array Value} {Q : Exit → Go.Act → World → Prop} (hp : ∀ i s, gx.pool[i]? = some s → keyT L i = true) (h : At Tryz.prog gx fxq hv n w₀ F S a w)
  (hc : cutR fxq 0 F2 d cnt L (dn x F S) = true) (hk : ∀ a' w', At Tryz.prog gx fxq hv n w₀ F2 (stOf d L cnt) a' w' → Code.wp Tryz.prog y Q a' w') : Code.wp Tryz.prog (.seq x y) Q a w := by
 refine wp_seq (wp_mono (seg_ok xok (krun 40) mixed_ok fxq_ok (by decide) hp h hc) ?_)
 rintro e a' w' ⟨rfl, h1⟩
 exact hk a' w' h1
theorem end_c {n : Nat} {w₀ : World} {x : Code} {F F2 d cnt : Nat} {L : List (Nat × Blk)} {S : St} {a : Go.Act} {w : World} {hv : Array Value} {Q : Exit → Go.Act → World → Prop} (hp : ∀ i s, gx.pool[i]? = some s → keyT L i = true) (h : At Tryz.prog gx fxq hv n w₀ F S a w)
  (hc : cutR fxq 1 F2 d cnt L (dn x F S) = true) (hk : ∀ a' w', At Tryz.prog gx fxq hv n w₀ F2 (stOf d L cnt) a' w' → Q .ret a' w') : Code.wp Tryz.prog x Q a w := by
 refine wp_mono (seg_ok xok (krun 40) mixed_ok fxq_ok (by decide) hp h hc) ?_
 rintro e a' w' ⟨rfl, h1⟩
 exact hk a' w' h1
end Go.Vm
namespace Go.Vm
open Go Go.Proofs
section
variable {w : World} {a : Go.Act} {ops : Array Oper} {o : Oper}
theorem wanted_none (q : o.guard = none) : Region.wanted o (yielded ops a.tmps) = true := by
 unfold Region.wanted; rw [q]
theorem eval_tmp (t : Nat) : a.eval (.tmp t) = a.tmps.getD t undef := rfl
theorem run_move {t : Nat} (p : o.op = .move (.tmp t)) : (execOp a.eval o).run Tryz.prog w = .ok (.value (a.tmps.getD t undef)) w := by
 unfold execOp; rw [p]; rfl
theorem run_assign {t : Nat} (p : o.op = .assign (.tmp t)) : (execOp a.eval o).run Tryz.prog w = .ok (.value (a.tmps.getD t undef)) w := by
 unfold execOp; rw [p]; rfl
theorem run_add {t : Nat} {r : Nat} (p : o.op = .binOp .add 3 (.const (.int .i64 1)) (.tmp t) 3) (h : a.tmps.getD t undef = .int .i64 r) (hr : r ≤ 100) : (execOp a.eval o).run Tryz.prog w = .ok (.value (.int .i64 ((1 + r : Nat)))) w := by
 have hw : IntKind.wrap .i64 (1 + (r : Int)) = ((1 + r : Nat) : Int) := by
  rw [show (1 + (r : Int)) = ((1 + r : Nat) : Int) from by omega]
  exact wrap_fits (fits_i (by omega) (by omega))
 unfold execOp
 rw [p]
 have e : a.eval (.tmp t) = .int .i64 r := h
 have e1 : a.eval (.const (.int .i64 1)) = .int .i64 1 := rfl
 simp only [e, e1]
 simp [eqGuard, Go.binOp, Op.intArith, hw, Sem.run_bind, Sem.run_pure]
theorem run_within {t : Nat} {x : Int} {m : Nat} {ats : Array TypeId} (p : o.op = .call { callee := .value (.func 7), args := #[.tmp t, .const (.int .i64 m)], argTypes := ats }) (h : a.tmps.getD t undef = .int .i64 x) :
  (execOp a.eval o).run Tryz.prog w = .ok (.enter 7 #[.int .i64 x, .int .i64 m]) w := by
 have := run_callFunc xok (f := 7) (fc := Tryz.f7) (by kernel_rfl) #[.int .i64 x, .int .i64 m] w
 unfold execOp
 rw [p]
 have e : a.eval (.func 7) = .func (.func 7) #[] #[] := rfl
 have e1 : a.eval (.tmp t) = .int .i64 x := h
 have e2 : a.eval (.const (.int .i64 m)) = .int .i64 m := rfl
 simp only [resolve, e, e1, e2, Deferred.ofValue, Sem.run_bind, Sem.run_pure, Result.andThen_ok, invoke, Array.empty_append, Array.append_empty, List.map_toArray, List.map_cons, List.map_nil]
 exact this
theorem put_size {t : Option Nat} {v : Value} : (a.put t v).tmps.size = a.tmps.size := by
 cases t with
 | none => rfl
 | some t => simp [Go.Act.put]
end
theorem within_region {id s t1 t2 t3 t4 m : Nat} {ops : Array Oper} {ats : Array TypeId} {o0 o1 o2 o3 : Oper} {a : Go.Act} {w : World} {x : Int} {Q : Exit → Go.Act → World → Prop} (hsz : ops.size = 4)
  (h0 : ops[0]? = some o0) (d0 : o0.dst = some t1) (p0 : o0.op = .move (.tmp s)) (q0 : o0.guard = none)
  (h1 : ops[1]? = some o1) (d1 : o1.dst = some t2) (p1 : o1.op = .call { callee := .value (.func 7), args := #[.tmp t1, .const (.int .i64 m)], argTypes := ats }) (q1 : o1.guard = none)
  (h2 : ops[2]? = some o2) (d2 : o2.dst = some t3) (p2 : o2.op = .binOp .add 3 (.const (.int .i64 1)) (.tmp t2) 3) (q2 : o2.guard = none)
  (h3 : ops[3]? = some o3) (d3 : o3.dst = some t4) (p3 : o3.op = .assign (.tmp t3)) (q3 : o3.guard = none)
  (hx : a.tmps.getD s undef = .int .i64 x) (hok : Go.Esc.I64ok x) (hm : 0 < m ∧ m ≤ 100) (ht : t1 < a.tmps.size ∧ t2 < a.tmps.size ∧ t3 < a.tmps.size)
  (hQ : ∀ r : Nat, r < m → Q .normal ((((a.put (some t1) (.int .i64 x)).put (some t2) (.int .i64 r)).put (some t3) (.int .i64 ((1 + r : Nat)))).put (some t4) (.int .i64 ((1 + r : Nat)))) w) :
  Code.wp Tryz.prog (.region id ops false) Q a w := by
 intro b k cs
 have er : List.range ops.size = [0, 1, 2, 3] := by rw [hsz]; rfl
 obtain ⟨a1, ha1⟩ : ∃ a1, a1 = a.put (some t1) (.int .i64 x) := ⟨_, rfl⟩
 have g1 : a1.tmps.getD t1 undef = .int .i64 x := by rw [ha1, getD_put ht.1, if_pos rfl]
 have z1 : a1.tmps.size = a.tmps.size := by rw [ha1, put_size]
 have s0 := step_value (P := Tryz.prog) (b := b) (k := k) (cs := cs) (rest := [1, 2, 3]) h0 (wanted_none q0 (ops := ops) (a := a)) (run_move (w := w) p0)
 rw [hx, d0, ← ha1] at s0
 have s1 := step_enter (P := Tryz.prog) (b := b) (k := k) (cs := cs) (rest := [2, 3]) h1 (wanted_none q1 (ops := ops) (a := a1)) (run_within (w := w) p1 g1)
 obtain ⟨e, w', fr, ⟨r, rfl, hr, rfl⟩, hs, hfn, hl⟩ := YteaijkhiibjopaaGreat.within_any x m w (by omega) (by omega) hok (b.at a1 (.inRegion ops [1, 2, 3] :: k) :: cs)
 have hr' : r < m := by omega
 obtain ⟨a2, ha2⟩ : ∃ a2, a2 = a1.put (some t2) (.int .i64 r) := ⟨_, rfl⟩
 have s2 := step_leave_returned (c := b.at a1 (.inRegion ops [1, 2, 3] :: k)) (cs := cs) hl
 rw [finish_at h1, d1, ← ha2] at s2
 have g2 : a2.tmps.getD t2 undef = .int .i64 r := by rw [ha2, getD_put (by rw [z1]; exact ht.2.1), if_pos rfl]
 have z2 : a2.tmps.size = a.tmps.size := by rw [ha2, put_size, z1]
 have s3 := step_value (P := Tryz.prog) (b := b) (k := k) (cs := cs) (rest := [3]) h2 (wanted_none q2 (ops := ops) (a := a2)) (run_add (w := w) p2 g2 (by omega))
 obtain ⟨a3, ha3⟩ : ∃ a3, a3 = a2.put (some t3) (.int .i64 ((1 + r : Nat))) := ⟨_, rfl⟩
 rw [d2, ← ha3] at s3
 have g3 : a3.tmps.getD t3 undef = .int .i64 ((1 + r : Nat)) := by rw [ha3, getD_put (by rw [z2]; exact ht.2.2), if_pos rfl]
 have s4 := step_value (P := Tryz.prog) (b := b) (k := k) (cs := cs) (rest := []) h3 (wanted_none q3 (ops := ops) (a := a3)) (run_assign (w := w) p3)
 rw [g3, d3] at s4
 refine ⟨.normal, _, w, hQ r hr', ?_⟩
 rw [← ha1, ← ha2, ← ha3]
 refine .head step_region ?_
 rw [er]
 exact .head s0 (.head s1 (Steps.trans hs (.head s2 (.head s3 (.head s4 (.one step_region_end))))))
end Go.Vm
namespace Go.Vm
open Go Go.Proofs
section
variable {P : Program} {X : GX} {fx : FX} {hv : Array Value} {n : Nat} {w₀ w : World} {F : Nat} {S : St} {a : Go.Act}
theorem At.held (h : At P X fx hv n w₀ F S a w) {t : Nat} (ht : t < fx.hold) : a.tmps.getD t undef = hv.getD t undef := by
 obtain ⟨G, hi, _⟩ := h
 exact hi.hold t ht
theorem At.size (h : At P X fx hv n w₀ F S a w) : fx.nt ≤ a.tmps.size := by
 obtain ⟨G, hi, _⟩ := h
 exact hi.size
theorem At.put0 (h : At P X fx hv n w₀ F S a w) {t : Nat} (v : Value) (ht : t < fx.nt) (hh : lookN t fx.home = none) (hth : lookN t fx.thome = none) : At P X fx (a.put (some t) v).tmps n w₀ F S (a.put (some t) v) w := by
 obtain ⟨G, hi, hs⟩ := h
 refine ⟨G, ⟨hi.hr, hi.pool, EnvOk.nil _ _, fun t' hd => ?_, by rw [put_size]; exact hi.size, fun _ _ => rfl, hi.rsl, hi.dsl⟩, hs⟩
 rw [getD_put (Nat.lt_of_lt_of_le ht hi.size)]
 by_cases e : t' = t
 ·subst e
  rw [if_pos rfl, rdT_eq]
  dsimp only [lookN]
  unfold homeOf
  rw [hh]
  dsimp only
  rw [hth]
  exact .c _ _ (.none _)
 ·rw [if_neg e]; exact hi.tm t' hd
theorem At.put1 (h : At P X fx hv n w₀ F S a w) (hok : fx.ok = true) {t o x : Nat} (ht : t < fx.nt) (hh : lookN t fx.home = some (o, 128)) (hx : x < 1000000) :
  At P X fx (a.put (some t) (.int .i64 x)).tmps n w₀ (p F o (2 + 32 * x)) S (a.put (some t) (.int .i64 x)) w := by
 obtain ⟨G, hi, hs⟩ := h
 have hb : 2 + 32 * x < 2 ^ 128 := by omega
 have hv' : BRel G (2 + 32 * x) (.int .i64 x) := .one _ _ (.int .i64 x (fits_i (by omega) (by omega))) hb
 let fx0 : FX := { fx with hold := 0 }
 let c0 : Fc := ⟨default, fx0, fun _ => [], none⟩
 have hi0 : Inv X c0 noD G [] F S a w := ⟨hi.hr, hi.pool, EnvOk.nil _ _, hi.tm, hi.size, fun t h => absurd h (Nat.not_lt_zero _), hi.rsl, hi.dsl⟩
 have e : wr fx0 (some t) (.c (2 + 32 * x)) 128 [] F (fun _ F => .ok 0 F S) = .ok 0 (p F o (2 + 32 * x)) S := by
  have h1 : Nat.ble fx0.hold t = true := ble_iff.2 (Nat.zero_le _)
  have h2 : Nat.ble (t + 1) fx0.nt = true := ble_iff.2 ht
  have h3 : lookN t fx0.home = some (o, 128) := hh
  simp only [wr, h1, h2, h3, sel_true]
  rfl
 rcases wr_c (fx := fx0) hok (EnvOk.nil _ _) t (2 + 32 * x) 128 hb (fun _ F => .ok 0 F S) with h1 | ⟨env', F', h1, hw⟩
 ·rw [e] at h1; cases h1
 ·rw [e] at h1
  have h1' : p F o (2 + 32 * x) = F' := by injection h1
  have hi1 := ((hi0.wrote (c := c0) hw (.c _ _ hv')).weaken (D' := noD) fun _ h => h.1).drop
  rw [← h1'] at hi1
  exact ⟨G, ⟨hi1.hr, hi1.pool, EnvOk.nil _ _, hi1.tm, hi1.size, fun _ _ => rfl, hi1.rsl, hi1.dsl⟩, hs⟩
end
noncomputable def opsOf : Code → Array Oper | .region _ ops _ => ops | _ => #[]
noncomputable def Y20 : Code := cL X12
theorem eB : Tryz.f3.body = some (.seq X0 R0) := by kernel_rfl
theorem e0 : R0 = .seq X1 R1 := by kernel_rfl
theorem e1 : R1 = .seq X2 R2 := by kernel_rfl
theorem e2 : R2 = .seq X3 R3 := by kernel_rfl
theorem e3 : R3 = .seq Y6 R4 := by kernel_rfl
theorem e4 : R4 = .seq X5 R5 := by kernel_rfl
theorem e5 : R5 = .seq X6 R6 := by kernel_rfl
theorem e6 : R6 = .seq X7 R7 := by kernel_rfl
theorem e7 : R7 = .seq X8 R8 := by kernel_rfl
theorem e8 : R8 = .seq X9 R9 := by kernel_rfl
theorem e9 : R9 = .seq X10 R10 := by kernel_rfl
theorem e10 : R10 = .seq Y19 R11 := by kernel_rfl
theorem e11 : R11 = .seq X12 R12 := by kernel_rfl
theorem e13 : R12 = .seq X13 R13 := by kernel_rfl
theorem e12 : X12 = .seq Y20 (.cond (.tmp 61) brA brB) := by kernel_rfl
theorem e6r : Y6 = .region 6 (opsOf Y6) false := by kernel_rfl
theorem e19r : Y19 = .region 19 (opsOf Y19) false := by kernel_rfl
theorem e20r : Y20 = .region 20 (opsOf Y20) false := by kernel_rfl
noncomputable def opN (c : Code) (i : Nat) : Oper := ((opsOf c)[i]?).getD { dst := none, op := .move (.tmp 0), type := 0, pos := "", after := #[], guard := none }
theorem reg6 {a : Go.Act} {w : World} {x : Int} {Q : Exit → Go.Act → World → Prop} (hx : a.tmps.getD 0 undef = .int .i64 x) (hok : Go.Esc.I64ok x) (ht : 122 ≤ a.tmps.size)
  (hQ : ∀ r : Nat, r < 5 → Q .normal ((((a.put (some 22) (.int .i64 x)).put (some 23) (.int .i64 r)).put (some 24) (.int .i64 ((1 + r : Nat)))).put (some 0) (.int .i64 ((1 + r : Nat)))) w) : Code.wp Tryz.prog Y6 Q a w := by
 rw [e6r]
 refine within_region (id := 6) (ops := opsOf Y6) (m := 5) (ats := #[3, 3]) (o0 := opN Y6 0) (o1 := opN Y6 1) (o2 := opN Y6 2) (o3 := opN Y6 3) (by kernel_rfl) (by kernel_rfl) (by kernel_rfl) (by kernel_rfl) (by kernel_rfl) (by kernel_rfl) (by kernel_rfl) (by kernel_rfl) (by kernel_rfl) (by kernel_rfl) (by kernel_rfl) (by kernel_rfl) (by kernel_rfl) (by kernel_rfl) (by kernel_rfl) (by kernel_rfl) (by kernel_rfl) hx hok (by decide) (by omega) hQ
theorem reg19 {a : Go.Act} {w : World} {x : Int} {Q : Exit → Go.Act → World → Prop} (hx : a.tmps.getD 1 undef = .int .i64 x) (hok : Go.Esc.I64ok x) (ht : 122 ≤ a.tmps.size)
  (hQ : ∀ r : Nat, r < 2 → Q .normal ((((a.put (some 56) (.int .i64 x)).put (some 57) (.int .i64 r)).put (some 58) (.int .i64 ((1 + r : Nat)))).put (some 9) (.int .i64 ((1 + r : Nat)))) w) : Code.wp Tryz.prog Y19 Q a w := by
 rw [e19r]
 refine within_region (id := 19) (ops := opsOf Y19) (m := 2) (ats := #[3, 3]) (o0 := opN Y19 0) (o1 := opN Y19 1) (o2 := opN Y19 2) (o3 := opN Y19 3) (by kernel_rfl) (by kernel_rfl) (by kernel_rfl) (by kernel_rfl) (by kernel_rfl) (by kernel_rfl) (by kernel_rfl) (by kernel_rfl) (by kernel_rfl) (by kernel_rfl) (by kernel_rfl) (by kernel_rfl) (by kernel_rfl) (by kernel_rfl) (by kernel_rfl) (by kernel_rfl) (by kernel_rfl) hx hok (by decide) (by omega) hQ
end Go.Vm
namespace Go.Vm
open Go Go.Proofs
section
variable {w : World} {a : Go.Act} {o : Oper}
theorem run_rem {t : Nat} {x : Int} (p : o.op = .binOp .rem 3 (.tmp t) (.const (.int .i64 3)) 3) (h : a.tmps.getD t undef = .int .i64 x) : ∃ y, (execOp a.eval o).run Tryz.prog w = .ok (.value (.int .i64 y)) w := by
 unfold execOp
 rw [p]
 have e : a.eval (.tmp t) = .int .i64 x := h
 have e1 : a.eval (.const (.int .i64 3)) = .int .i64 3 := rfl
 simp only [e, e1]
 refine ⟨x.tmod 3, ?_⟩
 simp [eqGuard, Go.binOp, Op.intDiv, Sem.run_bind, Sem.run_pure]
theorem run_eq0 {t : Nat} {x : Int} (p : o.op = .binOp .eql 3 (.tmp t) (.const (.int .i64 0)) 3) (h : a.tmps.getD t undef = .int .i64 x) : ∃ y, (execOp a.eval o).run Tryz.prog w = .ok (.value (.bool y)) w := by
 unfold execOp
 rw [p]
 have e : a.eval (.tmp t) = .int .i64 x := h
 have e1 : a.eval (.const (.int .i64 0)) = .int .i64 0 := rfl
 simp only [e, e1]
 refine ⟨x == 0, ?_⟩
 simp [eqGuard, Go.binOp, Op.intCmp, Sem.run_bind, Sem.run_pure]
end
theorem back_region {id s t1 t2 t3 : Nat} {ops : Array Oper} {o0 o1 o2 : Oper} {a : Go.Act} {w : World} {x : Int} {Q : Exit → Go.Act → World → Prop} (hsz : ops.size = 3)
  (h0 : ops[0]? = some o0) (d0 : o0.dst = some t1) (p0 : o0.op = .move (.tmp s)) (q0 : o0.guard = none)
  (h1 : ops[1]? = some o1) (d1 : o1.dst = some t2) (p1 : o1.op = .binOp .rem 3 (.tmp t1) (.const (.int .i64 3)) 3) (q1 : o1.guard = none)
  (h2 : ops[2]? = some o2) (d2 : o2.dst = some t3) (p2 : o2.op = .binOp .eql 3 (.tmp t2) (.const (.int .i64 0)) 3) (q2 : o2.guard = none)
  (hx : a.tmps.getD s undef = .int .i64 x) (ht : t1 < a.tmps.size ∧ t2 < a.tmps.size)
  (hQ : ∀ (u v : Value) (y : Bool), Q .normal (((a.put (some t1) u).put (some t2) v).put (some t3) (.bool y)) w) :
  Code.wp Tryz.prog (.region id ops false) Q a w := by
 intro b k cs
 have er : List.range ops.size = [0, 1, 2] := by rw [hsz]; rfl
 obtain ⟨a1, ha1⟩ : ∃ a1, a1 = a.put (some t1) (.int .i64 x) := ⟨_, rfl⟩
 have g1 : a1.tmps.getD t1 undef = .int .i64 x := by rw [ha1, getD_put ht.1, if_pos rfl]
 have z1 : a1.tmps.size = a.tmps.size := by rw [ha1, put_size]
 have s0 := step_value (P := Tryz.prog) (b := b) (k := k) (cs := cs) (rest := [1, 2]) h0 (wanted_none q0 (ops := ops) (a := a)) (run_move (w := w) p0)
 rw [hx, d0, ← ha1] at s0
 obtain ⟨y, hy⟩ := run_rem (w := w) p1 g1
 have s1 := step_value (P := Tryz.prog) (b := b) (k := k) (cs := cs) (rest := [2]) h1 (wanted_none q1 (ops := ops) (a := a1)) hy
 obtain ⟨a2, ha2⟩ : ∃ a2, a2 = a1.put (some t2) (.int .i64 y) := ⟨_, rfl⟩
 rw [d1, ← ha2] at s1
 have g2 : a2.tmps.getD t2 undef = .int .i64 y := by rw [ha2, getD_put (by rw [z1]; exact ht.2), if_pos rfl]
 obtain ⟨z, hz⟩ := run_eq0 (w := w) p2 g2
 have s2 := step_value (P := Tryz.prog) (b := b) (k := k) (cs := cs) (rest := []) h2 (wanted_none q2 (ops := ops) (a := a2)) hz
 rw [d2] at s2
 refine ⟨.normal, _, w, hQ (.int .i64 x) (.int .i64 y) z, ?_⟩
 rw [← ha1, ← ha2]
 refine .head step_region ?_
 rw [er]
 exact .head s0 (.head s1 (.head s2 (.one step_region_end)))
theorem reg20 {a : Go.Act} {w : World} {x : Int} {Q : Exit → Go.Act → World → Prop} (hx : a.tmps.getD 1 undef = .int .i64 x) (ht : 122 ≤ a.tmps.size)
  (hQ : ∀ (u v : Value) (y : Bool), Q .normal (((a.put (some 59) u).put (some 60) v).put (some 61) (.bool y)) w) : Code.wp Tryz.prog Y20 Q a w := by
 rw [e20r]
 exact back_region (id := 20) (ops := opsOf Y20) (o0 := opN Y20 0) (o1 := opN Y20 1) (o2 := opN Y20 2) (by kernel_rfl) (by kernel_rfl) (by kernel_rfl) (by kernel_rfl) (by kernel_rfl) (by kernel_rfl) (by kernel_rfl) (by kernel_rfl) (by kernel_rfl) (by kernel_rfl) (by kernel_rfl) (by kernel_rfl) (by kernel_rfl) hx (by omega) hQ
theorem At.putz {P : Program} {X : GX} {fx : FX} {hv : Array Value} {n : Nat} {w₀ w : World} {F : Nat} {S : St} {a : Go.Act} (h : At P X fx hv n w₀ F S a w) {t o : Nat} (v : Value) (ht : t < fx.nt) (hh : lookN t fx.home = some (o, 128)) (hz : gw F o 128 = 0) :
  At P X fx (a.put (some t) v).tmps n w₀ F S (a.put (some t) v) w := by
 obtain ⟨G, hi, hs⟩ := h
 refine ⟨G, ⟨hi.hr, hi.pool, EnvOk.nil _ _, fun t' hd => ?_, by rw [put_size]; exact hi.size, fun _ _ => rfl, hi.rsl, hi.dsl⟩, hs⟩
 rw [getD_put (Nat.lt_of_lt_of_le ht hi.size)]
 by_cases e : t' = t
 ·subst e
  rw [if_pos rfl, rdT_eq]
  dsimp only [lookN]
  unfold homeOf
  rw [hh]
  dsimp only
  rw [hz]
  exact .c _ _ (.none _)
 ·rw [if_neg e]; exact hi.tm t' hd
def Fine (w₀ : World) (e : Ending) (w : World) : Prop := e = .returned (.bool true) ∧ Go.Esc.Ext Go.Esc.no w₀ w
theorem at_end {w₀ w : World} {F : Nat} {S : St} {a : Go.Act} {hv : Array Value} (h : At Tryz.prog gx fxq hv w₀.heap.size w₀ F S a w) (hF : (rdT fxq [] F 4).1 = .c 17) : bodyPost Tryz.prog Tryz.f3 (Fine w₀) .ret a w := by
 obtain ⟨G, hi, hs⟩ := h
 have h4 := hi.tm 4 (fun h => h)
 rw [hF] at h4
 have h5 : a.tmps.getD 4 undef = .bool true := by
  generalize a.tmps.getD 4 undef = v at h4
  cases h4 with
  | c _ _ hb => exact (brel_code hb (by decide) (by decide) 17 rfl).2
 refine bodyPost_ret (v := .bool true) ?_ hi.dsl ⟨rfl, hs.os, hs.tape, hs.output, hs.size, fun k hk _ => hs.heap k hk⟩
 rw [results_tmp rfl]
 rw [h5]
def Ends (w₀ : World) (br : Code) (F : Nat) (S : St) : Prop := ∀ (a : Go.Act) (w : World) (hv : Array Value), At Tryz.prog gx fxq hv w₀.heap.size w₀ F S a w →
 Code.wp Tryz.prog br (Exit.then (Code.wp Tryz.prog R12 (bodyPost Tryz.prog Tryz.f3 (Fine w₀))) (bodyPost Tryz.prog Tryz.f3 (Fine w₀))) a w
theorem ends1 {w₀ : World} {br : Code} {F FT : Nat} {S : St} (hFT : (rdT fxq [] FT 4).1 = .c 17) (hc : ths (dn br F S) (fun F S => cutR fxq 1 FT 17 3 lA (dn R12 F S)) = true) : Ends w₀ br F S := by
 intro a w hv h
 refine wp_mono (seg_t xok (krun 40) mixed_ok fxq_ok rfl h hc) ?_
 rintro e a' w' ⟨rfl, F', S', m1, m2⟩
 exact end_c (keyA (by kernel_rfl)) m1 m2 fun a'' w'' m3 => at_end m3 hFT
theorem ends2 {w₀ : World} {br : Code} {F F2 FT cnt : Nat} {L : List (Nat × Blk)} {S : St} (hFT : (rdT fxq [] FT 4).1 = .c 17) (hp : ∀ i s, gx.pool[i]? = some s → keyT L i = true)
  (hc : ths (dn br F S) (fun F S => cutR fxq 0 F2 17 cnt L (dn X13 F S)) = true) (hc2 : cutR fxq 1 FT 17 3 lA (dn R13 F2 (stOf 17 L cnt)) = true) : Ends w₀ br F S := by
 intro a w hv h
 refine wp_mono (seg_t xok (krun 40) mixed_ok fxq_ok rfl h hc) ?_
 rintro e a' w' ⟨rfl, F', S', m1, m2⟩
 show Code.wp Tryz.prog R12 _ a' w'
 rw [e13]
 exact seq_c hp m1 m2 fun a'' w'' m3 => end_c (keyA (by kernel_rfl)) m3 hc2 fun a3 w3 m4 => at_end m4 hFT
theorem ends3 {w₀ : World} {br : Code} {F F1 F2 FT c1 c2 : Nat} {L1 L2 : List (Nat × Blk)} {S : St} (hFT : (rdT fxq [] FT 4).1 = .c 17) (hp1 : ∀ i s, gx.pool[i]? = some s → keyT L1 i = true) (hp2 : ∀ i s, gx.pool[i]? = some s → keyT L2 i = true)
  (h1 : cutR fxq 0 F1 17 c1 L1 (dn br F S) = true) (h2 : cutR fxq 0 F2 17 c2 L2 (dn X13 F1 (stOf 17 L1 c1)) = true) (h3 : cutR fxq 1 FT 17 3 lA (dn R13 F2 (stOf 17 L2 c2)) = true) : Ends w₀ br F S := by
 intro a w hv h
 refine wp_mono (seg_ok xok (krun 40) mixed_ok fxq_ok (by decide) hp1 h h1) ?_
 rintro e a' w' ⟨rfl, m2⟩
 show Code.wp Tryz.prog R12 _ a' w'
 rw [e13]
 exact seq_c hp2 m2 h2 fun a'' w'' m3 => end_c (keyA (by kernel_rfl)) m3 h3 fun a3 w3 m4 => at_end m4 hFT
theorem tail_ok {w₀ w : World} {FC F1 F2 : Nat} {S : St} {a : Go.Act} {hv : Array Value} {x : Int} (h : At Tryz.prog gx fxq hv w₀.heap.size w₀ FC S a w) (hx : hv.getD 1 undef = .int .i64 x) (hok : Go.Esc.I64ok x)
  (hF1 : p FC 1024 34 = F1) (hF2 : p FC 1024 66 = F2) (hz : gw FC 1024 128 = 0) (hA : Ends w₀ brA FC S) (hB1 : Ends w₀ brB F1 S) (hB2 : Ends w₀ brB F2 S) :
  Code.wp Tryz.prog R10 (bodyPost Tryz.prog Tryz.f3 (Fine w₀)) a w := by
 rw [e10]
 have hsz : 122 ≤ a.tmps.size := h.size
 have hx0 : a.tmps.getD 1 undef = .int .i64 x := (h.held (by decide : 1 < 2)).trans hx
 refine wp_seq (reg19 hx0 hok hsz fun r hr => ?_)
 have k1 := h.put0 (t := 56) (.int .i64 x) (by decide) rfl rfl
 have k2 := k1.put0 (t := 57) (.int .i64 r) (by decide) rfl rfl
 have k3 := k2.put0 (t := 58) (.int .i64 ((1 + r : Nat))) (by decide) rfl rfl
 have k4 := k3.put1 fxq_ok (t := 9) (o := 1024) (x := 1 + r) (by decide) rfl (by omega)
 have z4 := k3.putz (t := 9) (o := 1024) (.int .i64 ((1 + r : Nat))) (by decide) rfl hz
 have hx1 : ((((a.put (some 56) (.int .i64 x)).put (some 57) (.int .i64 r)).put (some 58) (.int .i64 ((1 + r : Nat)))).put (some 9) (.int .i64 ((1 + r : Nat)))).tmps.getD 1 undef = .int .i64 x := by
  rw [getD_put (by rw [put_size, put_size, put_size]; omega), if_neg (by decide), getD_put (by rw [put_size, put_size]; omega), if_neg (by decide), getD_put (by rw [put_size]; omega), if_neg (by decide), getD_put (by omega), if_neg (by decide)]
  exact hx0
 generalize (((a.put (some 56) (.int .i64 x)).put (some 57) (.int .i64 r)).put (some 58) (.int .i64 ((1 + r : Nat)))).put (some 9) (.int .i64 ((1 + r : Nat))) = b at k4 z4 hx1 ⊢
 show Code.wp Tryz.prog R11 _ b w
 rw [e11, e12]
 have hsz2 : 122 ≤ b.tmps.size := k4.size
 refine wp_seq (wp_seq (reg20 hx1 hsz2 fun u v y => ?_))
 have j3 := ((k4.put0 (t := 59) u (by decide) rfl rfl).put0 (t := 60) v (by decide) rfl rfl).put0 (t := 61) (.bool y) (by decide) rfl rfl
 have hy : (((b.put (some 59) u).put (some 60) v).put (some 61) (.bool y)).eval (.tmp 61) = .bool y := by
  rw [eval_tmp, getD_put (by rw [put_size, put_size]; omega), if_pos rfl]
 have i3 := ((z4.put0 (t := 59) u (by decide) rfl rfl).put0 (t := 60) v (by decide) rfl rfl).put0 (t := 61) (.bool y) (by decide) rfl rfl
 generalize ((b.put (some 59) u).put (some 60) v).put (some 61) (.bool y) = c at j3 i3 hy ⊢
 have hr2 : (r = 0 ∨ r = 1) := by omega
 refine wp_cond hy ?_
 rcases hr2 with rfl | rfl
 ·have hp : p FC 1024 (2 + 32 * (1 + 0)) = F1 := hF1
  rw [hp] at j3
  cases y
  ·exact hB1 _ _ _ j3
  ·exact hA _ _ _ i3
 ·have hp : p FC 1024 (2 + 32 * (1 + 1)) = F2 := hF2
  rw [hp] at j3
  cases y
  ·exact hB2 _ _ _ j3
  ·exact hA _ _ _ i3
end Go.Vm
