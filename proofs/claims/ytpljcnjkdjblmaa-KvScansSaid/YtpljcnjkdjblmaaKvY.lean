/- Scans, plainly: of all, from a key on; what good changes leave. -/
import Derived.Test.YtpljcnjkdjblmaaKA
import Derived.Test.YtpljcnjkdjblmaaKvI
namespace Go.Esc
set_option linter.unusedVariables false
theorem bytesLess_nil (k : List UInt8) : Op.bytesLess k [] = false := by cases k <;> rfl
theorem scanX_nil (X : KvX) (c : Int) : scanX X c [] = X.row c := by
  unfold scanX
  rw [List.filter_eq_self]
  intro r _
  rw [bytesLess_nil]
  rfl
theorem filter_drop {l : List PairR} (h : Rising l) : ∀ (i : Nat) (r : PairR), l[i]? = some r → l.filter (fun x => !Op.bytesLess x.key r.key) = l.drop i := by
  induction l with
  | nil => intro i r hr; simp at hr
  | cons a l ih =>
    intro i r hr
    have h1 := List.pairwise_cons.1 h
    cases i with
    | zero =>
      rw [List.getElem?_cons_zero] at hr
      cases hr
      rw [List.drop_zero, List.filter_eq_self]
      intro x hx
      rcases List.mem_cons.1 hx with rfl | hx
      · rw [bytesOrd.irr]; rfl
      · cases hc : Op.bytesLess x.key a.key with
        | false => rfl
        | true =>
          have := bytesOrd.tr (h1.1 x hx) hc
          rw [bytesOrd.irr] at this
          cases this
    | succ i =>
      rw [List.getElem?_cons_succ] at hr
      rw [List.drop_succ_cons, List.filter_cons_of_neg, ih h1.2 i r hr]
      rw [h1.1 r (List.mem_of_getElem? hr)]
      simp
theorem scanX_drop {X : KvX} {c : Int} (h : Rising (X.row c)) {i : Nat} {r : PairR} (hr : (X.row c)[i]? = some r) : scanX X c r.key = (X.row c).drop i := filter_drop h i r hr
theorem kvGet_row {m : KvM} {X : KvX} (h : Tells m X) {c : Int} (hc : c = 0 ∨ c = 1 ∨ c = 2) {r : PairR} (hr : r ∈ X.row c) : kvGet m (c, r.key) = some r.val ∧ kvHas m (c, r.key) = true := by
  have h1 := (h.mem c r hc).1 hr
  exact ⟨(kvGet_some h.once).2 h1, (kvHas_iff m _).2 ⟨_, h1⟩⟩
theorem goodL_coll (l : List ChangeR) : ∀ c ∈ goodL l, c.coll = 0 ∨ c.coll = 1 ∨ c.coll = 2 := by
  intro c hc
  have h := (chErr_ok (goodL_err l c hc)).1
  omega
theorem Tells.good (l : List ChangeR) : Tells (kvLays [] (goodL l)) (KvX.nil.puts (goodL l)) := Tells.nil.puts _ (goodL_coll l)
theorem kvErr_good (l : List ChangeR) : kvErr [] (goodL l) = 0 := by
  have h1 := goodL_len l
  have h2 := kvLays_len (goodL l) []
  unfold kvErr
  rw [if_neg (by omega), (firstErr_zero _).2 (goodL_err l), if_neg (by simp), if_neg (by simp only [List.length_nil] at h2; omega)]
/-- Each key is one letter. -/
theorem keys_lays {P : List UInt8 → Prop} (l : List ChangeR) (hl : ∀ c ∈ l, P c.key) : ∀ m : KvM, (∀ e ∈ m, P e.1.2) → ∀ e ∈ kvLays m l, P e.1.2 := by
  induction l with
  | nil => intro m hm; exact hm
  | cons c l ih =>
    intro m hm
    refine ih (fun d hd => hl d (List.mem_cons_of_mem _ hd)) (kvLay m c) ?_
    intro e he
    rcases (kvLay_mem c e).1 he with ⟨_, rfl⟩ | ⟨h, _⟩
    · exact hl c (by simp)
    · exact hm e h
theorem good_low (l : List ChangeR) (c : Int) (hc : c = 0 ∨ c = 1 ∨ c = 2) : scanX (KvX.nil.puts (goodL l)) c [126, 126, 126, 126] = [] := by
  unfold scanX
  rw [List.filter_eq_nil_iff]
  intro r hr
  have h1 := ((Tells.good l).mem c r hc).1 hr
  have h2 := keys_lays (P := fun k => ∃ b : UInt8, k = [b] ∧ b.toNat < 110) (goodL l) (fun d hd => by
    obtain ⟨e, _, rfl⟩ := List.mem_map.1 hd
    exact ⟨gKey e, rfl, (gKey_at e).2.1⟩) [] (by simp) _ h1
  obtain ⟨b, hb, hb2⟩ := h2
  have hb : r.key = [b] := hb
  have : Op.bytesLess r.key [126, 126, 126, 126] = true := by
    rw [hb]
    have : b < 126 := by rw [UInt8.lt_iff_toNat_lt]; show b.toNat < 126; omega
    simp [Op.bytesLess, this]
  rw [this]
  simp
end Go.Esc
