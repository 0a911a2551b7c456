/- The walk of the law CodeMany. -/
import Derived.Test.YtnplelcnigpemaaCodeI
import Derived.Test.YtnplelcnigpemaaPlainC
import Derived.Test.YtnplelcnigpemaaLawA
namespace Go.Proofs.Ytnplelcnigpemaa
open Go.RowKit Go.Esc
set_option linter.unusedVariables false

set_option maxHeartbeats 2000000 in
theorem many_walk (w : World) (n : Int) (b : Bool) (a : Option Addr) (l : List UInt8) (c : Nat) (hn : I64ok n) (hrd : Rd w a (bs l)) (hlc : l.length ≤ c) (hc : c ≤ maxLen) :
    Calls Try.prog 8 #[.int .i64 n, .bool b, .slice a l.length c] w fun e w' => e = .returned (.bool true) ∧ Ext no w w' := by
  obtain ⟨hn1, hn2⟩ := hn
  have HRn := Lib.hid (fun hb : ¬ (0 ≤ n ∧ n ≤ 65535) => rLen_enc_bad n ⟨hn1, hn2⟩ hb l)
  have HRp := Lib.hid (fun (h0 : 0 ≤ n) (h1 : n ≤ 65535) => rLen_enc_bad (65536 + n) ⟨by omega, by omega⟩ (by omega) l)
  go_enter Try.func8, Try.ntmps8
  go_wp2_with fail
  refine (known_any w).mono ?_
  rintro e w1 ⟨rfl, hext1⟩
  have hrd1 := hrd.ext hext1 (fun _ _ h => h)
  clear hrd
  go_wp2_with fail
  · go_ret
    exact ⟨rfl, hext1⟩
  all_goals
    refine (int_any w1 none 0 [] _ (Rd.nil _ _) (by simp) ⟨by omega, by omega⟩).mono ?_
    rintro e w2 ⟨a2, c2, rfl, hown2, hext2⟩
    first | have hR := HRn.out (by omega) | have hR := HRp.out (by omega) (by omega)
    rw [List.nil_append] at hown2 ⊢
    generalize hem : encI _ = em at hown2 hR
    have hlen : em.length ≤ 10 := by rw [← hem]; exact (encI_length _ ⟨by omega, by omega⟩).1
    have HR := Lib.hid hR
    clear hem hR
    have hrd2 := hrd1.ext hext2 (fun _ _ h => h)
    have hs2 := hext2.size
    go_wp2_with (at_builtin; refine wpList_append TBytes rfl rfl rfl hown2 rfl hrd2 (by simp) (bs_one _) ?c1 ?c2 ?c3 ?_)
    case c1 => unfold maxLen; omega
    case c2 => omega
    case c3 => omega
    intro a3 c3 w3 happ
    have hex3 : Ext no w1 w3 := Ext.ofBelow (hext2.belowAll.trans (hown2.below happ.ext (by omega))) (Nat.le_refl _)
    have hrd3 := happ.own.rd
    rw [show bs em ++ bs l = bs (em ++ l) from by simp [bs]] at hrd3
    have hex3' := hext1.comp hex3
    clear happ hown2 hrd1 hrd2
    go_wp2_with fail
    rw [show (em.length + l.length) = (em ++ l).length from by simp]
    have hsm : (em ++ l).length ≤ 100 := by rw [List.length_append]; omega
    have hs1 := hex3'.size
    generalize em ++ l = eml at *
    refine (new_any w3 a3 c3 eml hrd3 (by omega)).mono ?_
    rintro e w4 ⟨g, d, rfl, hr4, hg4, hd4, hx4⟩
    clear hrd3
    cases b with
    | true =>
      go_wp2_with fail
      refine (rdInts_any w4 g ⟨eml, 0⟩ hr4).mono ?_
      rintro e w5 ⟨a5, c5, rfl, hrd5, hfr5, hr5, hx5⟩
      rw [rInts_err rfl HR.out] at hr5 ⊢
      go_wp2_with fail
      refine (end_any w5 g ⟨l, 4⟩ hr5).mono ?_
      rintro e w6 ⟨rfl, rfl⟩
      go_wp2_with fail
      go_ret
      exact ⟨rfl, ((hex3'.comp hx4)).trans hx5 (fun i hi h => by simp only [Esc.just] at h; omega)⟩
    | false =>
      go_wp2_with fail
      refine (rdText_any w4 g ⟨eml, 0⟩ hr4).mono ?_
      rintro e w5 ⟨rfl, hr5, hx5⟩
      rw [rText_err rfl HR.out, show str [] = ⟨#[]⟩ from rfl] at *
      go_wp2_with fail
      refine (end_any w5 g ⟨l, 4⟩ hr5).mono ?_
      rintro e w6 ⟨rfl, rfl⟩
      go_wp2_with fail
      go_ret
      exact ⟨rfl, ((hex3'.comp hx4)).trans hx5 (fun i hi h => by simp only [Esc.just] at h; omega)⟩
end Go.Proofs.Ytnplelcnigpemaa
