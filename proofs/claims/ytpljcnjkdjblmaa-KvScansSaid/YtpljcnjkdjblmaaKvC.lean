/- A store's map, as a block holds it; what may be done with it. -/
import Derived.Test.YtpljcnjkdjblmaaKA
import Derived.Maps.Keyed
import Derived.DeepKeys4
import Derived.Laws.Externs
namespace Go.Esc
open Go.RowKit
def plV (p : PlaceR) : Value := .agg #[.int .i64 p.1, .string (str p.2)]
def PlOk (p : PlaceR) : Prop := I64ok p.1 ∧ p.2.length ≤ maxLen
theorem plV_inj {p q : PlaceR} (h : plV p = plV q) : p = q := by
  obtain ⟨a, b⟩ := p
  obtain ⟨c, d⟩ := q
  simp only [plV, Value.agg.injEq, Array.mk.injEq, List.cons.injEq, Value.int.injEq, Value.string.injEq, true_and, and_true] at h
  rw [h.1, Go.Esc.str_inj h.2]
/-- Block b of w is a map of these places and values. -/
def MapIn (w : World) (b : Nat) (m : KvM) : Prop := ∃ es clock, w.heap[b]? = some (.map es clock) ∧ MapKept.Stamped es clock ∧ es.toList.map (fun e => (e.key, e.val)) = m.map (fun e => (plV e.1, Value.string (str e.2))) ∧ (∀ e ∈ m, PlOk e.1)
theorem MapIn.lt {w : World} {b : Nat} {m : KvM} (h : MapIn w b m) : b < w.heap.size := by
  obtain ⟨es, clock, hb, _⟩ := h
  exact (Array.getElem?_eq_some_iff.1 hb).1
theorem MapIn.ext {w w' : World} {b : Nat} {m : KvM} {S : Nat → Prop} (h : MapIn w b m) (hx : Ext S w w') (hS : ¬ S b) : MapIn w' b m := by
  have hlt := h.lt
  obtain ⟨es, clock, hb, hs, hm, ho⟩ := h
  exact ⟨es, clock, (hx.block b hlt hS).trans hb, hs, hm, ho⟩
theorem MapIn.no {w w' : World} {b : Nat} {m : KvM} (h : MapIn w b m) (hx : Ext no w w') : MapIn w' b m := h.ext hx (fun h => h)
theorem MapIn.once {w : World} {b : Nat} {m : KvM} (h : MapIn w b m) : m.once := by
  obtain ⟨es, clock, _, hs, hm, _⟩ := h
  have h2 : es.toList.map (·.key) = m.map (fun e => plV e.1) := by
    have := congrArg (List.map Prod.fst) hm
    rw [List.map_map, List.map_map] at this
    exact this
  have h3 := hs.2.2
  rw [h2] at h3
  unfold KvM.once
  have h4 : m.map (fun e => plV e.1) = (m.map (·.1)).map plV := by rw [List.map_map]; rfl
  rw [h4] at h3
  exact nodup_of_map h3
theorem MapIn.new (w : World) : MapIn (w.alloc (.map #[] 0)) w.heap.size [] :=
  ⟨#[], 0, heap_alloc_new w _, MapKept.stamped_empty 0, rfl, fun e h => by cases h⟩
theorem MapIn.copy {w : World} {b : Nat} {m : KvM} (h : MapIn w b m) : ∃ es clock, w.heap[b]? = some (.map es clock) ∧ MapIn (w.alloc (.map es clock)) w.heap.size m := by
  obtain ⟨es, clock, hb, hs, hm, ho⟩ := h
  exact ⟨es, clock, hb, es, clock, heap_alloc_new w _, hs, hm, ho⟩
theorem Ext.setBlock (w : World) (b : Nat) (o : Obj) : Ext (just b) w (ChangeMaps.setBlock w b o) := by
  refine ⟨rfl, rfl, rfl, ?_, ?_⟩
  · show w.heap.size ≤ (w.heap.setIfInBounds b o).size
    rw [Array.size_setIfInBounds]; exact Nat.le_refl _
  · intro k hk hn
    show (w.heap.setIfInBounds b o)[k]? = w.heap[k]?
    rw [Array.getElem?_setIfInBounds_ne (fun e => hn e.symm)]
theorem heap_setBlock (w : World) (b : Nat) (o : Obj) (h : b < w.heap.size) : (ChangeMaps.setBlock w b o).heap[b]? = some o := by
  show (w.heap.setIfInBounds b o)[b]? = some o
  rw [Array.getElem?_setIfInBounds_self_of_lt h]
/-- The entry at a place. -/
theorem map_at {m : KvM} (h : m.once) {j : Nat} {p : PlaceR} {v : List UInt8} (hj : m[j]? = some (p, v)) (i : Nat) (e : PlaceR × List UInt8) (hi : m[i]? = some e) (he : e.1 = p) : i = j := by
  have h1 : (m.map (·.1))[i]? = some p := by rw [List.getElem?_map, hi, Option.map_some, he]
  have h2 : (m.map (·.1))[j]? = some p := by rw [List.getElem?_map, hj]; rfl
  have hi' := (List.getElem?_eq_some_iff.1 h1).1
  have hj' := (List.getElem?_eq_some_iff.1 h2).1
  have hp := List.pairwise_iff_getElem.1 h
  have e1 := (List.getElem?_eq_some_iff.1 h1).2
  have e2 := (List.getElem?_eq_some_iff.1 h2).2
  rcases Nat.lt_trichotomy i j with hh | hh | hh
  · exact absurd (e1.trans e2.symm) (hp i j hi' hj' hh)
  · exact hh
  · exact absurd (e2.trans e1.symm) (hp j i hj' hi' hh)
theorem kvPut_set {m : KvM} (h : m.once) {j : Nat} {p : PlaceR} {v : List UInt8} (hj : m[j]? = some (p, v)) (u : List UInt8) : kvPut m p u = m.set j (p, u) := by
  have hh : kvHas m p = true := (kvHas_iff m p).2 ⟨v, List.mem_of_getElem? hj⟩
  unfold kvPut
  rw [if_pos hh]
  apply List.ext_getElem?
  intro i
  rw [List.getElem?_map, List.getElem?_set]
  by_cases hij : j = i
  · subst hij
    rw [if_pos rfl, if_pos (List.getElem?_eq_some_iff.1 hj).1, hj]
    simp
  · rw [if_neg hij]
    cases hi : m[i]? with
    | none => rfl
    | some e =>
      have : e.1 ≠ p := fun he => hij (map_at h hj i e hi he).symm
      rw [Option.map_some, if_neg this]
theorem kvDel_erase {m : KvM} (h : m.once) {j : Nat} {p : PlaceR} {v : List UInt8} (hj : m[j]? = some (p, v)) : kvDel m p = m.eraseIdx j := by
  have hp : m.Pairwise (fun a b => ¬ (decide (a.1 = p) = true ∧ decide (b.1 = p) = true)) := by
    have : m.Pairwise (fun a b => a.1 ≠ b.1) := List.pairwise_map.1 h
    refine this.imp (fun {a b} hab hx => ?_)
    have h1 : a.1 = p := of_decide_eq_true hx.1
    have h2 : b.1 = p := of_decide_eq_true hx.2
    exact hab (h1.trans h2.symm)
  have := ChangeMaps.filter_eq_eraseIdx (fun e : PlaceR × List UInt8 => decide (e.1 = p)) m j (p, v) hj (by simp) hp
  rw [← this]
  unfold kvDel
  congr 1
  funext e
  simp
theorem kvDel_none {m : KvM} {p : PlaceR} (h : kvHas m p = false) : kvDel m p = m := by
  unfold kvDel
  rw [List.filter_eq_self]
  intro e he
  have : ¬ e.1 = p := fun hp => by
    have := (kvHas_iff m p).2 ⟨e.2, by rw [← hp]; exact he⟩
    rw [h] at this
    cases this
  simpa using this
end Go.Esc
namespace Go.Proofs.Ytpljcnjkdjblmaa
open Go.RowKit Go.Esc Go.Maps
set_option linter.unusedVariables false
set_option linter.unusedSimpArgs false

theorem kvLaid : laidOutB Try.prog = true := by kernel_rfl
theorem kvWide : (match Try.prog.underlying 84 with | some (.array _ _) | some (.struct _) => true | _ => false) = true := by rw [Try.underlying84]
set_option maxRecDepth 100000 in
theorem KvK : Keyed Try.prog 84 := Keyed.of_law (deep_law_laid kvLaid (m := 4) (by omega) (of_decide_eq_true (by kernel_rfl)) (by kernel_rfl) kvWide)
theorem plKey (p : PlaceR) (h : PlOk p) : ∃ l, keyOf Try.prog 84 (plV p) = some l := by
  obtain ⟨⟨h1, h2⟩, h3⟩ := h
  have hf : (plV p).formed Try.prog 84 = true := by
    unfold plV Value.formed
    rw [Try.underlying84]
    kernel_rfl
  have hk : Try.prog.keyType 84 = true := by kernel_rfl
  have hl : ∃ ls, Try.prog.keyLits (Try.prog.types.size + 1) 84 (plV p).cells.toList = some ls := by
    obtain ⟨d, hd⟩ : ∃ d, Try.prog.types.size = d + 1 := ⟨Try.prog.types.size - 1, by kernel_rfl⟩
    rw [hd]
    unfold Program.keyLits
    rw [Try.underlying84]
    simp only [plV, Value.cells]
    have c84 : Try.prog.cellsOf 84 = 2 := by kernel_rfl
    have c3 : Try.prog.cellsOf 3 = 1 := by kernel_rfl
    have c9 : Try.prog.cellsOf 9 = 1 := by kernel_rfl
    have hi : Try.prog.keyLits (d + 1) 3 [.int .i64 p.1] = some [.int .i64 p.1] := by
      unfold Program.keyLits
      rw [Try.underlying3]
      simp only
      rw [if_pos ⟨trivial, by simp [Lit.wf, IntKind.min, IntKind.max, IntKind.signed, IntKind.bits]; omega⟩]
    have hs : Try.prog.keyLits (d + 1) 9 [.string (str p.2)] = some [.string p.2] := by
      unfold Program.keyLits
      rw [Try.underlying9]
      simp only
      rw [if_pos (by rw [str_size]; exact h3)]
      rfl
    exact ⟨[.int .i64 p.1, .string p.2], by simp [c84, c3, c9, hi, hs]⟩
  obtain ⟨ls, hls⟩ := hl
  unfold keyOf
  rw [Try.underlying84]
  simp only [hk, hf, Bool.and_self, if_true, hls, Option.map_some]
  exact ⟨_, rfl⟩

/-- Where a key stands, if it does. -/
theorem find_place {w : World} {m : KvM} {es : Array MapEntry} (hm : es.toList.map (fun e => (e.key, e.val)) = m.map (fun e => (plV e.1, Value.string (str e.2)))) (ho : ∀ e ∈ m, PlOk e.1) (p : PlaceR) (hp : PlOk p) :
    ((Instr.findKey 84 (plV p) es.toList).run Try.prog w = .ok none w ∧ kvHas m p = false ∧ ∀ e ∈ es.toList, e.key ≠ plV p) ∨
    ∃ j e v, (Instr.findKey 84 (plV p) es.toList).run Try.prog w = .ok (some (j, e.val)) w ∧ es.toList[j]? = some e ∧ m[j]? = some (p, v) ∧ e.key = plV p ∧ e.val = .string (str v) := by
  obtain ⟨lx, hlx⟩ := plKey p hp
  have hks : ∀ e ∈ es.toList, ∃ l, keyOf Try.prog 84 e.key = some l := by
    intro e he
    have : (e.key, e.val) ∈ m.map (fun e => (plV e.1, Value.string (str e.2))) := by rw [← hm]; exact List.mem_map.2 ⟨e, he, rfl⟩
    obtain ⟨x, hx, hxe⟩ := List.mem_map.1 this
    have := congrArg Prod.fst hxe
    simp only at this
    rw [← this]
    exact plKey x.1 (ho x hx)
  rcases KvK.find w hlx es.toList hks with ⟨h1, h2⟩ | ⟨j, e, h1, h2, h3⟩
  · refine .inl ⟨h1, ?_, h2⟩
    rw [Bool.eq_false_iff]
    intro hh
    obtain ⟨v, hv⟩ := (kvHas_iff m p).1 hh
    have : (plV p, Value.string (str v)) ∈ es.toList.map (fun e => (e.key, e.val)) := by rw [hm]; exact List.mem_map.2 ⟨(p, v), hv, rfl⟩
    obtain ⟨e, he, hee⟩ := List.mem_map.1 this
    exact h2 e he (congrArg Prod.fst hee)
  · have hj := congrArg (fun l => l[j]?) hm
    simp only [List.getElem?_map, h2, Option.map_some] at hj
    cases hmj : m[j]? with
    | none => rw [hmj] at hj; cases hj
    | some x =>
      rw [hmj, Option.map_some, Option.some.injEq] at hj
      have e1 := congrArg Prod.fst hj
      have e2 := congrArg Prod.snd hj
      simp only at e1 e2
      have : x.1 = p := plV_inj (e1.symm.trans h3)
      exact .inr ⟨j, e, x.2, h1, h2, by rw [← this]; exact hmj, h3, e2⟩

theorem mapput_run {w : World} {b : Nat} {m : KvM} (h : MapIn w b m) (p : PlaceR) (hp : PlOk p) (v : List UInt8) :
    ∃ w', (Instr.mapUpdate 78 (.map (some b)) (plV p) (.string (str v))).run Try.prog w = .ok () w' ∧ MapIn w' b (kvPut m p v) ∧ Ext (just b) w w' := by
  have hon := h.once
  have hlt := h.lt
  obtain ⟨es, clock, hb, hs, hm, ho⟩ := h
  obtain ⟨lx, hlx⟩ := plKey p hp
  have hok : ∀ e ∈ kvPut m p v, PlOk e.1 := fun e he => by
    rcases (kvPut_mem p v e).1 he with rfl | he
    · exact hp
    · exact ho e he.1
  rcases find_place (w := w) hm ho p hp with ⟨h1, h2, h3⟩ | ⟨j, e, u, h1, h2, h3, h4, h5⟩
  · refine ⟨ChangeMaps.setBlock w b (.map (es.push ⟨plV p, .string (str v), clock⟩) (clock + 1)), ?_, ⟨_, _, heap_setBlock _ _ _ hlt, MapKept.stamped_push hs h3, ?_, hok⟩, Ext.setBlock _ _ _⟩
    · simp [Instr.mapUpdate, run_underlying Try.underlying78, MapKept.run_getObj_map hb, KvK.check w false hlx, h1, MapKept.run_setObj_map _ hb, Result.andThen, ChangeMaps.setBlock]
    · rw [Array.toList_push, List.map_append, hm]
      unfold kvPut
      rw [if_neg (by rw [h2]; simp), List.map_append]
      rfl
  · have hes : es[j]? = some e := by rw [← h2]; simp
    refine ⟨ChangeMaps.setBlock w b (.map (es.modify j fun x => { x with key := plV p, val := .string (str v) }) clock), ?_, ⟨_, _, heap_setBlock _ _ _ hlt, MapKept.stamped_modify hs j _ (fun _ _ => rfl) (fun x _ hx => by rw [hes] at hx; cases hx; exact h4.symm), ?_, hok⟩, Ext.setBlock _ _ _⟩
    · have hst := KvK.stays w hlx
      simp [Instr.mapUpdate, run_underlying Try.underlying78, MapKept.run_getObj_map hb, KvK.check w false hlx, h1, hes, h4, hst, MapKept.run_setObj_map _ hb, Result.andThen, ChangeMaps.setBlock]
    · rw [Array.toList_modify, ChangeMaps.modify_eq_set _ _ j e h2, List.map_set, hm, kvPut_set hon h3, List.map_set]
theorem mapdel_run {w : World} {b : Nat} {m : KvM} (h : MapIn w b m) (p : PlaceR) (hp : PlOk p) :
    ∃ w', (∀ ty : TypeId, (Builtin.delete_ #[78, 84] ty #[.map (some b), plV p]).run Try.prog w = .ok (.tuple #[]) w') ∧ MapIn w' b (kvDel m p) ∧ Ext (just b) w w' := by
  have hon := h.once
  have hlt := h.lt
  obtain ⟨es, clock, hb, hs, hm, ho⟩ := h
  obtain ⟨lx, hlx⟩ := plKey p hp
  have hok : ∀ e ∈ kvDel m p, PlOk e.1 := fun e he => ho e ((kvDel_mem p e).1 he).1
  rcases find_place (w := w) hm ho p hp with ⟨h1, h2, h3⟩ | ⟨j, e, u, h1, h2, h3, h4, h5⟩
  · refine ⟨ChangeMaps.setBlock w b (.map es clock), ?_, ⟨_, _, heap_setBlock _ _ _ hlt, hs, by rw [kvDel_none h2]; exact hm, hok⟩, Ext.setBlock _ _ _⟩
    intro ty; simp [Builtin.delete_, run_underlying Try.underlying78, MapKept.run_getObj_map hb, KvK.check w _ hlx, h1, MapKept.run_setObj_map _ hb, Result.andThen, ChangeMaps.setBlock]
  · have hjs : j < es.size := by have := (List.getElem?_eq_some_iff.1 h2).1; simpa using this
    have hsub : (es.eraseIdxIfInBounds j).toList = es.toList.eraseIdx j := by
      unfold Array.eraseIdxIfInBounds
      rw [dif_pos hjs, Array.toList_eraseIdx]
    refine ⟨ChangeMaps.setBlock w b (.map (es.eraseIdxIfInBounds j) clock), ?_, ⟨_, _, heap_setBlock _ _ _ hlt, MapKept.stamped_erase hs j, ?_, hok⟩, Ext.setBlock _ _ _⟩
    · intro ty; simp [Builtin.delete_, run_underlying Try.underlying78, MapKept.run_getObj_map hb, KvK.check w _ hlx, h1, MapKept.run_setObj_map _ hb, Result.andThen, ChangeMaps.setBlock]
    · rw [hsub, ChangeMaps.map_eraseIdx, hm, kvDel_erase hon h3, ChangeMaps.map_eraseIdx]
theorem mapget_run {w : World} {b : Nat} {m : KvM} (h : MapIn w b m) (p : PlaceR) (hp : PlOk p) :
    (Instr.lookup 78 (.map (some b)) (plV p) true).run Try.prog w = .ok (.tuple #[.string (str ((kvGet m p).getD [])), .bool (kvHas m p)]) w := by
  have hon := h.once
  obtain ⟨es, clock, hb, hs, hm, ho⟩ := h
  obtain ⟨lx, hlx⟩ := plKey p hp
  have hz : (zeroValue 9).run Try.prog w = .ok (.string { data := #[] }) w := by kernel_rfl
  rcases find_place (w := w) hm ho p hp with ⟨h1, h2, h3⟩ | ⟨j, e, u, h1, h2, h3, h4, h5⟩
  · rw [kvGet_none.2 h2, h2]
    simp [Instr.lookup, run_underlying Try.underlying78, MapKept.run_getObj_map hb, KvK.check w _ hlx, h1, hz, Result.andThen]
    rfl
  · have hmem := List.mem_of_getElem? h3
    rw [(kvGet_some hon).2 hmem, (kvHas_iff m p).2 ⟨u, hmem⟩]
    simp [Instr.lookup, run_underlying Try.underlying78, MapKept.run_getObj_map hb, KvK.check w _ hlx, h1, h5, Result.andThen]
theorem maplen_run {w : World} {b : Nat} {m : KvM} (h : MapIn w b m) (hsm : m.length ≤ 4294967296) (ty : TypeId) :
    (Builtin.len_ #[78] ty #[.map (some b)]).run Try.prog w = .ok (.int .i64 m.length) w := by
  obtain ⟨es, clock, hb, hs, hm, ho⟩ := h
  have hl : es.size = m.length := by
    have := congrArg List.length hm
    rw [List.length_map, List.length_map, Array.length_toList] at this
    exact this
  have hlt : m.length ≤ 4294967296 := hsm
  simp [Builtin.len_, run_underlying Try.underlying78, MapKept.run_getObj_map hb, Result.andThen, goInt, hl]
  try (rw [IntKind.wrap_i64]; omega)
end Go.Proofs.Ytpljcnjkdjblmaa
