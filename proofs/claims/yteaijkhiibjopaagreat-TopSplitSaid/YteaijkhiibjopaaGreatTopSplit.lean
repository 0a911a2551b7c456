/- TopSplit returns true for any two ints and leaves the world as it was but for new blocks; no condition. -/
import Derived.Test.YteaijkhiibjopaaGreatW
import Derived.Test.YteaijkhiibjopaaGreatKk
import Derived.Test.YteaijkhiibjopaaGreatKb
import Derived.Test.YteaijkhiibjopaaGreatK1
import Derived.Test.YteaijkhiibjopaaGreatK2
import Derived.Test.YteaijkhiibjopaaGreatK3
import Derived.Test.YteaijkhiibjopaaGreatK4
import Derived.Test.YteaijkhiibjopaaGreatK5
import Derived.Test.YteaijkhiibjopaaGreatKt10
import Derived.Test.YteaijkhiibjopaaGreatKt11
import Derived.Test.YteaijkhiibjopaaGreatKt12
import Derived.Test.YteaijkhiibjopaaGreatKt20
import Derived.Test.YteaijkhiibjopaaGreatKt21
import Derived.Test.YteaijkhiibjopaaGreatKt22
import Derived.Test.YteaijkhiibjopaaGreatKt30
import Derived.Test.YteaijkhiibjopaaGreatKt31
import Derived.Test.YteaijkhiibjopaaGreatKt32
import Derived.Test.YteaijkhiibjopaaGreatKt40
import Derived.Test.YteaijkhiibjopaaGreatKt41
import Derived.Test.YteaijkhiibjopaaGreatKt42
import Derived.Test.YteaijkhiibjopaaGreatKt50
import Derived.Test.YteaijkhiibjopaaGreatKt51
import Derived.Test.YteaijkhiibjopaaGreatKt52
import Derived.Test.YteaijkhiibjopaaGreatKu1
import Derived.Test.YteaijkhiibjopaaGreatKu2
import Derived.Test.YteaijkhiibjopaaGreatKu3
import Derived.Test.YteaijkhiibjopaaGreatKu4
import Derived.Test.YteaijkhiibjopaaGreatKu5
import Derived.Test.YteaijkhiibjopaaGreatKv1
import Derived.Test.YteaijkhiibjopaaGreatKv2
import Derived.Test.YteaijkhiibjopaaGreatKw5
import Derived.KernelRfl
import Derived.Test.YteaijkhiibjopaaGreatRows
set_option linter.all false
set_option maxRecDepth 100000
namespace Go.Vm
open Go Go.Proofs
theorem mid_ok {w₀ w : World} {F0 FC F1 F2 cnt : Nat} {L : List (Nat × Blk)} {a : Go.Act} {hv : Array Value} {x : Int} (h : At Tryz.prog gx fxq hv w₀.heap.size w₀ F0 sB a w) (hx : hv.getD 1 undef = .int .i64 x) (hok : Go.Esc.I64ok x)
  (hD : ths (dn X5 F0 sB) (fun F S => ths (dn X6 F S) fun F S => ths (dn X7 F S) fun F S => ths (dn X8 F S) fun F S => ths (dn X9 F S) fun F S => cutR fxq 0 FC 17 cnt L (dn X10 F S)) = true) (hp : ∀ i s, gx.pool[i]? = some s → keyT L i = true)
  (hF1 : p FC 1024 34 = F1) (hF2 : p FC 1024 66 = F2) (hz : gw FC 1024 128 = 0) (hA : Ends w₀ brA FC (stOf 17 L cnt)) (hB1 : Ends w₀ brB F1 (stOf 17 L cnt)) (hB2 : Ends w₀ brB F2 (stOf 17 L cnt)) :
  Code.wp Tryz.prog R4 (bodyPost Tryz.prog Tryz.f3 (Fine w₀)) a w := by
 rw [e4]
 refine seq_t h hD fun F a1 b w1 h1 d1 => ?_
 rw [e5]
 refine seq_t h1 d1 fun F a2 b w2 h2 d2 => ?_
 rw [e6]
 refine seq_t h2 d2 fun F a3 b w3 h3 d3 => ?_
 rw [e7]
 refine seq_t h3 d3 fun F a4 b w4 h4 d4 => ?_
 rw [e8]
 refine seq_t h4 d4 fun F a5 b w5 h5 d5 => ?_
 rw [e9]
 exact seq_c hp h5 d5 fun a' w' h6 => tail_ok h6 hx hok hF1 hF2 hz hA hB1 hB2
theorem fT : (rdT fxq [] 1968465517034375322200706745147694433505589739315889588670778928134523203878912 4).1 = .c 17 := by kernel_rfl
theorem mid1 {w₀ w : World} {a : Go.Act} {hv : Array Value} {x : Int} (h : At Tryz.prog gx fxq hv w₀.heap.size w₀ (p 48779683671136365264801451643977793890688717216836222974919987234456203553113546736930861623547525563318605451999838208 0 (2 + 32 * (1 + 0))) sB a w) (hx : hv.getD 1 undef = .int .i64 x) (hok : Go.Esc.I64ok x) :
  Code.wp Tryz.prog R4 (bodyPost Tryz.prog Tryz.f3 (Fine w₀)) a w := by
 have e : p 48779683671136365264801451643977793890688717216836222974919987234456203553113546736930861623547525563318605451999838208 0 (2 + 32 * (1 + 0)) = 48779683671136365264801451643977793890688717216836222974919987234456203553113546736930861623547525563318605451999838242 := by kernel_rfl
 rw [e] at h
 exact mid_ok (FC := 5064309085560636692691700482327323370631483643045901522942903694868195435601680678705234356927547055205936941420580480832081298463701656165294910268444771295696644950163441620155308958845730029602) (F1 := 6112156658531874086279637648682684094301121728403842347296622759362910977387032746512088228961856224718083871915632438469484412776382856865239139965112751712487154277968369403089143661877968880740110054727817743195703060141064318450945127056851827719719212273544378911453903006858473795984557424166069350694946) (F2 := 11864774690091284991013414259207563241878648061019223380046385356410356603163063566758759503278897377393927516071517025914565685378444188785010257745575923692575726867564064931930814689117843892562608709194537927798523881976023130658110346594158299308946428615451140455132214876889824717739288826714044523085858) (cnt := 22229) (L := lC1) h hx hok chD1 (keyA (by kernel_rfl)) (by kernel_rfl) (by kernel_rfl) (by kernel_rfl) (ends2 fT (keyA (by kernel_rfl)) chDt10 chDu1) (ends1 fT chDt11) (ends1 fT chDt12)
theorem mid2 {w₀ w : World} {a : Go.Act} {hv : Array Value} {x : Int} (h : At Tryz.prog gx fxq hv w₀.heap.size w₀ (p 48779683671136365264801451643977793890688717216836222974919987234456203553113546736930861623547525563318605451999838208 0 (2 + 32 * (1 + 1))) sB a w) (hx : hv.getD 1 undef = .int .i64 x) (hok : Go.Esc.I64ok x) :
  Code.wp Tryz.prog R4 (bodyPost Tryz.prog Tryz.f3 (Fine w₀)) a w := by
 have e : p 48779683671136365264801451643977793890688717216836222974919987234456203553113546736930861623547525563318605451999838208 0 (2 + 32 * (1 + 1)) = 48779683671136365264801451643977793890688717216836222974919987234456203553113546736930861623547525563318605451999838274 := by kernel_rfl
 rw [e] at h
 exact mid_ok (FC := 5064309085560636692691700482327323370631483643045901522942903694868195435601680678705234356927547055205936941420580480832081298463701656165294910268444771295696644950163441620155308958845730029634) (F1 := 6112156658531874086279637648682684094301121728403842347296622759362910977387032746512088228961856224718083871915632438469484412776382856865239139965112751712487154277968369403089143661877968880740110054727817743195703060141064318450945127056851827719719212273544378911453903006858473795984557424166069350694978) (F2 := 11864774690091284991013414259207563241878648061019223380046385356410356603163063566758759503278897377393927516071517025914565685378444188785010257745575923692575726867564064931930814689117843892562608709194537927798523881976023130658110346594158299308946428615451140455132214876889824717739288826714044523085890) (cnt := 22692) (L := lC2) h hx hok chD2 (keyA (by kernel_rfl)) (by kernel_rfl) (by kernel_rfl) (by kernel_rfl) (ends2 fT (keyA (by kernel_rfl)) chDt20 chDu2) (ends1 fT chDt21) (ends1 fT chDt22)
theorem mid3 {w₀ w : World} {a : Go.Act} {hv : Array Value} {x : Int} (h : At Tryz.prog gx fxq hv w₀.heap.size w₀ (p 48779683671136365264801451643977793890688717216836222974919987234456203553113546736930861623547525563318605451999838208 0 (2 + 32 * (1 + 2))) sB a w) (hx : hv.getD 1 undef = .int .i64 x) (hok : Go.Esc.I64ok x) :
  Code.wp Tryz.prog R4 (bodyPost Tryz.prog Tryz.f3 (Fine w₀)) a w := by
 have e : p 48779683671136365264801451643977793890688717216836222974919987234456203553113546736930861623547525563318605451999838208 0 (2 + 32 * (1 + 2)) = 48779683671136365264801451643977793890688717216836222974919987234456203553113546736930861623547525563318605451999838306 := by kernel_rfl
 rw [e] at h
 exact mid_ok (FC := 5064309085560636692691700482327323370631483643045901522942903694868195435601680678705234356927547055205936941420580480832081298463701656165294910268444771295696644950163441620155308958845730029666) (F1 := 6112156658531874086279637648682684094301121728403842347296622759362910977387032746512088228961856224718083871915632438469484412776382856865239139965112751712487154277968369403089143661877968880740110054727817743195703060141064318450945127056851827719719212273544378911453903006858473795984557424166069350695010) (F2 := 11864774690091284991013414259207563241878648061019223380046385356410356603163063566758759503278897377393927516071517025914565685378444188785010257745575923692575726867564064931930814689117843892562608709194537927798523881976023130658110346594158299308946428615451140455132214876889824717739288826714044523085922) (cnt := 23161) (L := lC3) h hx hok chD3 (keyA (by kernel_rfl)) (by kernel_rfl) (by kernel_rfl) (by kernel_rfl) (ends2 fT (keyA (by kernel_rfl)) chDt30 chDu3) (ends1 fT chDt31) (ends1 fT chDt32)
theorem mid4 {w₀ w : World} {a : Go.Act} {hv : Array Value} {x : Int} (h : At Tryz.prog gx fxq hv w₀.heap.size w₀ (p 48779683671136365264801451643977793890688717216836222974919987234456203553113546736930861623547525563318605451999838208 0 (2 + 32 * (1 + 3))) sB a w) (hx : hv.getD 1 undef = .int .i64 x) (hok : Go.Esc.I64ok x) :
  Code.wp Tryz.prog R4 (bodyPost Tryz.prog Tryz.f3 (Fine w₀)) a w := by
 have e : p 48779683671136365264801451643977793890688717216836222974919987234456203553113546736930861623547525563318605451999838208 0 (2 + 32 * (1 + 3)) = 48779683671136365264801451643977793890688717216836222974919987234456203553113546736930861623547525563318605451999838338 := by kernel_rfl
 rw [e] at h
 exact mid_ok (FC := 5064309085560636692691700482327323370631483643045901522942903694868195435601680678705234356927547055205936941420580480832081298463701656165294910268444771295696644950163441620155308958845730029698) (F1 := 6112156658531874086279637648682684094301121728403842347296622759362910977387032746512088228961856224718083871915632438469484412776382856865239139965112751712487154277968369403089143661877968880740110054727817743195703060141064318450945127056851827719719212273544378911453903006858473795984557424166069350695042) (F2 := 11864774690091284991013414259207563241878648061019223380046385356410356603163063566758759503278897377393927516071517025914565685378444188785010257745575923692575726867564064931930814689117843892562608709194537927798523881976023130658110346594158299308946428615451140455132214876889824717739288826714044523085954) (cnt := 23636) (L := lC4) h hx hok chD4 (keyA (by kernel_rfl)) (by kernel_rfl) (by kernel_rfl) (by kernel_rfl) (ends2 fT (keyA (by kernel_rfl)) chDt40 chDu4) (ends1 fT chDt41) (ends1 fT chDt42)
theorem mid5 {w₀ w : World} {a : Go.Act} {hv : Array Value} {x : Int} (h : At Tryz.prog gx fxq hv w₀.heap.size w₀ (p 48779683671136365264801451643977793890688717216836222974919987234456203553113546736930861623547525563318605451999838208 0 (2 + 32 * (1 + 4))) sB a w) (hx : hv.getD 1 undef = .int .i64 x) (hok : Go.Esc.I64ok x) :
  Code.wp Tryz.prog R4 (bodyPost Tryz.prog Tryz.f3 (Fine w₀)) a w := by
 have e : p 48779683671136365264801451643977793890688717216836222974919987234456203553113546736930861623547525563318605451999838208 0 (2 + 32 * (1 + 4)) = 48779683671136365264801451643977793890688717216836222974919987234456203553113546736930861623547525563318605451999838370 := by kernel_rfl
 rw [e] at h
 exact mid_ok (FC := 5064309085560636692691700482327323370631483643045901522942903694868195435601680678705234356927547055205936941420580480832081298463701656165294910268444771295696644950163441620155308958845730029730) (F1 := 6112156658531874086279637648682684094301121728403842347296622759362910977387032746512088228961856224718083871915632438469484412776382856865239139965112751712487154277968369403089143661877968880740110054727817743195703060141064318450945127056851827719719212273544378911453903006858473795984557424166069350695074) (F2 := 11864774690091284991013414259207563241878648061019223380046385356410356603163063566758759503278897377393927516071517025914565685378444188785010257745575923692575726867564064931930814689117843892562608709194537927798523881976023130658110346594158299308946428615451140455132214876889824717739288826714044523085986) (cnt := 23781) (L := lC5) h hx hok chD5 (keyA (by kernel_rfl)) (by kernel_rfl) (by kernel_rfl) (by kernel_rfl) (ends3 fT (keyA (by kernel_rfl)) (keyA (by kernel_rfl)) chDw5 chDt50 chDu5) (ends2 fT (keyA (by kernel_rfl)) chDt51 chDv1) (ends2 fT (keyA (by kernel_rfl)) chDt52 chDv2)
theorem split_walk (w : World) (x y : Int) (hx : Go.Esc.I64ok x) (hy : Go.Esc.I64ok y) : Calls Tryz.prog 3 #[.int .i64 x, .int .i64 y] w (Fine w) := by
 refine calls_of_wp Tryz.func3 eB ?_
 have hn : Tryz.f3.ntmps = 122 := by kernel_rfl
 have hsz : (#[Value.int .i64 x, .int .i64 y] ++ Array.replicate (Tryz.f3.ntmps - (#[Value.int .i64 x, .int .i64 y] : Array Value).size) undef).size = 122 := by rw [hn]; simp
 have g0 : (#[Value.int .i64 x, .int .i64 y] ++ Array.replicate (Tryz.f3.ntmps - (#[Value.int .i64 x, .int .i64 y] : Array Value).size) undef).getD 0 undef = .int .i64 x := by simp
 have g1 : (#[Value.int .i64 x, .int .i64 y] ++ Array.replicate (Tryz.f3.ntmps - (#[Value.int .i64 x, .int .i64 y] : Array Value).size) undef).getD 1 undef = .int .i64 y := by simp
 generalize #[Value.int .i64 x, .int .i64 y] ++ Array.replicate (Tryz.f3.ntmps - (#[Value.int .i64 x, .int .i64 y] : Array Value).size) undef = tm at hsz g0 g1 ⊢
 have h := at0 w ⟨tm, []⟩ (Nat.le_of_eq hsz.symm) rfl
 refine seq_t h chDk fun F S a1 w1 h1 d1 => ?_
 rw [e0]
 refine seq_c (keyA (by kernel_rfl)) h1 d1 fun a2 w2 h2 => ?_
 rw [e1]
 refine seq_t (S := sA) h2 chDb fun F S a3 w3 h3 d3 => ?_
 rw [e2]
 refine seq_c (keyA (by kernel_rfl)) h3 d3 fun a4 w4 h4 => ?_
 rw [e3]
 have hs4 : 122 ≤ a4.tmps.size := h4.size
 have q0 : a4.tmps.getD 0 undef = .int .i64 x := (h4.held (by decide : 0 < 2)).trans g0
 have q1 : a4.tmps.getD 1 undef = .int .i64 y := (h4.held (by decide : 1 < 2)).trans g1
 refine wp_seq (reg6 q0 hx hs4 fun r hr => ?_)
 have k1 := h4.put0 (t := 22) (.int .i64 x) (by decide) rfl rfl
 have k2 := k1.put0 (t := 23) (.int .i64 r) (by decide) rfl rfl
 have k3 := k2.put0 (t := 24) (.int .i64 ((1 + r : Nat))) (by decide) rfl rfl
 have k4 := k3.put1 fxq_ok (t := 0) (o := 0) (x := 1 + r) (by decide) rfl (by omega)
 have q2 : ((((a4.put (some 22) (.int .i64 x)).put (some 23) (.int .i64 r)).put (some 24) (.int .i64 ((1 + r : Nat)))).put (some 0) (.int .i64 ((1 + r : Nat)))).tmps.getD 1 undef = .int .i64 y := by
  rw [getD_put (by rw [put_size, put_size, put_size]; omega), if_neg (by decide), getD_put (by rw [put_size, put_size]; omega), if_neg (by decide), getD_put (by rw [put_size]; omega), if_neg (by decide), getD_put (by omega), if_neg (by decide)]
  exact q1
 generalize (((a4.put (some 22) (.int .i64 x)).put (some 23) (.int .i64 r)).put (some 24) (.int .i64 ((1 + r : Nat)))).put (some 0) (.int .i64 ((1 + r : Nat))) = a5 at k4 q2 ⊢
 show Code.wp Tryz.prog R4 _ a5 w4
 have hr5 : r = 0 ∨ r = 1 ∨ r = 2 ∨ r = 3 ∨ r = 4 := by omega
 rcases hr5 with rfl | rfl | rfl | rfl | rfl
 ·exact mid1 k4 q2 hy
 ·exact mid2 k4 q2 hy
 ·exact mid3 k4 q2 hy
 ·exact mid4 k4 q2 hy
 ·exact mid5 k4 q2 hy
#print axioms split_walk
end Go.Vm
