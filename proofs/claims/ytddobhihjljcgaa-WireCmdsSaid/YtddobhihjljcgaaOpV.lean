/- Operations' bytes tell them apart. -/
import Derived.Test.YtddobhihjljcgaaOpU
import Derived.Test.YtddobhihjljcgaaMA
namespace Go.Esc
open Go.RowKit

theorem encI_inj {n m : Int} (hn : I64ok n) (hm : I64ok m) {r s : List UInt8} (h : encI n ++ r = encI m ++ s) : n = m ∧ r = s := by
  have h1 := zig_enc n hn r
  have h2 := zig_enc m hm s
  rw [h, h2] at h1
  simp only [Prod.mk.injEq, Sum.inr.injEq] at h1
  refine ⟨?_, h1.2.symm⟩
  rw [← sgn_zig n, ← sgn_zig m, h1.1]
theorem encT_inj {x y : List UInt8} (hx : x.length ≤ 1000) (hy : y.length ≤ 1000) {r s : List UInt8} (h : encT x ++ r = encT y ++ s) : x = y ∧ r = s := by
  unfold encT at h
  rw [List.append_assoc, List.append_assoc] at h
  obtain ⟨h1, h2⟩ := encI_inj ⟨by omega, by omega⟩ ⟨by omega, by omega⟩ h
  have h3 : x.length = y.length := by omega
  exact List.append_inj h2 h3
theorem dotEnc_inj {d e : DotR} (hd : d.ok) (he : e.ok) {r s : List UInt8} (h : dotEnc d ++ r = dotEnc e ++ s) : d = e ∧ r = s := by
  obtain ⟨a, b, c⟩ := d
  obtain ⟨a', b', c'⟩ := e
  simp only [dotEnc, List.flatMap_cons, List.flatMap_nil, List.append_nil, List.append_assoc] at h
  obtain ⟨h1, h2⟩ := encI_inj hd.1 he.1 h
  obtain ⟨h3, h4⟩ := encI_inj hd.2.1 he.2.1 h2
  obtain ⟨h5, h6⟩ := encI_inj hd.2.2 he.2.2 h4
  simp only at h1 h3 h5
  subst h1 h3 h5
  exact ⟨rfl, h6⟩
theorem dotsEnc_inj : ∀ {l m : List DotR}, (∀ d ∈ l, d.ok) → (∀ d ∈ m, d.ok) → l.length = m.length → l.flatMap dotEnc = m.flatMap dotEnc → l = m
  | [], [], _, _, _, _ => rfl
  | [], _ :: _, _, _, h, _ => by simp at h
  | _ :: _, [], _, _, h, _ => by simp at h
  | d :: l, e :: m, hl, hm, hlen, h => by
    rw [List.flatMap_cons, List.flatMap_cons] at h
    obtain ⟨h1, h2⟩ := dotEnc_inj (hl d (by simp)) (hm e (by simp)) h
    rw [h1, dotsEnc_inj (fun x hx => hl x (by simp [hx])) (fun x hx => hm x (by simp [hx])) (by simpa using hlen) h2]
theorem opEnc_inj {o p : OpR} (ho : o.ok) (hp : p.ok) (ho1 : o.key.length ≤ 1000) (ho2 : o.text.length ≤ 1000) (ho3 : o.dots.length ≤ 1000) (hp1 : p.key.length ≤ 1000) (hp2 : p.text.length ≤ 1000) (hp3 : p.dots.length ≤ 1000) (h : opEnc o = opEnc p) : o = p := by
  obtain ⟨⟨d1, e1, s1⟩, l1, v1, k1, y1, x1, n1, t1, q1⟩ := o
  obtain ⟨⟨d2, e2, s2⟩, l2, v2, k2, y2, x2, n2, t2, q2⟩ := p
  obtain ⟨a1, a2, a3, a4, a5, a6, a7, a8, a9⟩ := ho
  obtain ⟨b1, b2, b3, b4, b5, b6, b7, b8, b9⟩ := hp
  simp only at *
  simp only [opEnc, headEnc, List.flatMap_cons, List.flatMap_nil, List.append_nil, List.append_assoc] at h
  obtain ⟨z1, h⟩ := encI_inj a1.1 b1.1 h
  obtain ⟨z2, h⟩ := encI_inj a1.2.1 b1.2.1 h
  obtain ⟨z3, h⟩ := encI_inj a1.2.2 b1.2.2 h
  obtain ⟨z4, h⟩ := encI_inj a2 b2 h
  obtain ⟨z5, h⟩ := encI_inj a3 b3 h
  obtain ⟨z6, h⟩ := encI_inj a4 b4 h
  obtain ⟨z7, h⟩ := encI_inj a6 b6 h
  obtain ⟨z8, h⟩ := encT_inj ho1 hp1 h
  obtain ⟨z9, h⟩ := encT_inj ho2 hp2 h
  obtain ⟨z10, h⟩ := encI_inj a5 b5 h
  obtain ⟨z11, h⟩ := encI_inj ⟨by omega, by omega⟩ ⟨by omega, by omega⟩ h
  have z12 := dotsEnc_inj a9 b9 (by omega) h
  simp only at z1 z2 z3
  subst z1 z2 z3 z4 z5 z6 z7 z8 z9 z10 z12
  rfl
end Go.Esc
