/- DERIVED. What the compiled functions of this seat compute is shown by an abstract evaluator and by contracts over it, for every way that the run can go. -/
import Derived.Test.YtahmjlopifdeaaaB3
import Derived.Test.YtahmjlopifdeaaaChecked
import Derived.WalkKit
import Derived.Shelf.Spec.SlicesInsertGrow
set_option linter.unusedVariables false
set_option linter.unusedSimpArgs false
set_option maxRecDepth 100000
namespace AL
open Go AL
theorem k2 : FunOk Go.Proofs.Try.prog 2 A2 := funB_sound (gf := Go.Proofs.Try.f2) rfl (by decide +kernel)
theorem k3 : FunOk Go.Proofs.Try.prog 3 A3 := funB_sound (gf := Go.Proofs.Try.f3) rfl (by decide +kernel)
theorem k4 : FunOk Go.Proofs.Try.prog 4 A4 := funB_sound (gf := Go.Proofs.Try.f4) rfl (by decide +kernel)
theorem k5 : FunOk Go.Proofs.Try.prog 5 A5 := funB_sound (gf := Go.Proofs.Try.f5) rfl (by decide +kernel)
theorem k6 : FunOk Go.Proofs.Try.prog 6 A6 := funB_sound (gf := Go.Proofs.Try.f6) rfl (by decide +kernel)
theorem k7 : FunOk Go.Proofs.Try.prog 7 A7 := funB_sound (gf := Go.Proofs.Try.f7) rfl (by decide +kernel)
theorem k8 : FunOk Go.Proofs.Try.prog 8 A8 := funB_sound (gf := Go.Proofs.Try.f8) rfl (by decide +kernel)
theorem k9 : FunOk Go.Proofs.Try.prog 9 A9 := funB_sound (gf := Go.Proofs.Try.f9) rfl (by decide +kernel)
theorem k10 : FunOk Go.Proofs.Try.prog 10 A10 := funB_sound (gf := Go.Proofs.Try.f10) rfl (by decide +kernel)
theorem k11 : FunOk Go.Proofs.Try.prog 11 A11 := funB_sound (gf := Go.Proofs.Try.f11) rfl (by decide +kernel)
theorem k12 : FunOk Go.Proofs.Try.prog 12 A12 := funB_sound (gf := Go.Proofs.Try.f12) rfl (by decide +kernel)
theorem k13 : FunOk Go.Proofs.Try.prog 13 A13 := funB_sound (gf := Go.Proofs.Try.f13) rfl (by decide +kernel)
theorem k15 : FunOk Go.Proofs.Try.prog 15 A15 := funB_sound (gf := Go.Proofs.Try.f15) rfl (by decide +kernel)
theorem k16 : FunOk Go.Proofs.Try.prog 16 A16 := funB_sound (gf := Go.Proofs.Try.f16) rfl (by decide +kernel)
theorem k17 : FunOk Go.Proofs.Try.prog 17 A17 := funB_sound (gf := Go.Proofs.Try.f17) rfl (by decide +kernel)
theorem k18 : FunOk Go.Proofs.Try.prog 18 A18 := funB_sound (gf := Go.Proofs.Try.f18) rfl (by decide +kernel)
theorem k19 : FunOk Go.Proofs.Try.prog 19 A19 := funB_sound (gf := Go.Proofs.Try.f19) rfl (by decide +kernel)
theorem k20 : FunOk Go.Proofs.Try.prog 20 A20 := funB_sound (gf := Go.Proofs.Try.f20) rfl (by decide +kernel)
theorem k21 : FunOk Go.Proofs.Try.prog 21 A21 := funB_sound (gf := Go.Proofs.Try.f21) rfl (by decide +kernel)
theorem k22 : FunOk Go.Proofs.Try.prog 22 A22 := funB_sound (gf := Go.Proofs.Try.f22) rfl (by decide +kernel)
theorem k23 : FunOk Go.Proofs.Try.prog 23 A23 := funB_sound (gf := Go.Proofs.Try.f23) rfl (by decide +kernel)
theorem k24 : FunOk Go.Proofs.Try.prog 24 A24 := funB_sound (gf := Go.Proofs.Try.f24) rfl (by decide +kernel)
theorem k25 : FunOk Go.Proofs.Try.prog 25 A25 := funB_sound (gf := Go.Proofs.Try.f25) rfl (by decide +kernel)
theorem k26 : FunOk Go.Proofs.Try.prog 26 A26 := funB_sound (gf := Go.Proofs.Try.f26) rfl (by decide +kernel)
theorem k27 : FunOk Go.Proofs.Try.prog 27 A27 := funB_sound (gf := Go.Proofs.Try.f27) rfl (by decide +kernel)
theorem k28 : FunOk Go.Proofs.Try.prog 28 A28 := funB_sound (gf := Go.Proofs.Try.f28) rfl (by decide +kernel)
theorem k29 : FunOk Go.Proofs.Try.prog 29 A29 := funB_sound (gf := Go.Proofs.Try.f29) rfl (by decide +kernel)
theorem k30 : FunOk Go.Proofs.Try.prog 30 A30 := funB_sound (gf := Go.Proofs.Try.f30) rfl (by decide +kernel)
theorem k31 : FunOk Go.Proofs.Try.prog 31 A31 := funB_sound (gf := Go.Proofs.Try.f31) rfl (by decide +kernel)
theorem k32 : FunOk Go.Proofs.Try.prog 32 A32 := funB_sound (gf := Go.Proofs.Try.f32) rfl (by decide +kernel)
theorem k33 : FunOk Go.Proofs.Try.prog 33 A33 := funB_sound (gf := Go.Proofs.Try.f33) rfl (by decide +kernel)
theorem k34 : FunOk Go.Proofs.Try.prog 34 A34 := funB_sound (gf := Go.Proofs.Try.f34) rfl (by decide +kernel)
theorem k35 : FunOk Go.Proofs.Try.prog 35 A35 := funB_sound (gf := Go.Proofs.Try.f35) rfl (by decide +kernel)
theorem k36 : FunOk Go.Proofs.Try.prog 36 A36 := funB_sound (gf := Go.Proofs.Try.f36) rfl (by decide +kernel)
theorem k37 : FunOk Go.Proofs.Try.prog 37 A37 := funB_sound (gf := Go.Proofs.Try.f37) rfl (by decide +kernel)
theorem k38 : FunOk Go.Proofs.Try.prog 38 A38 := funB_sound (gf := Go.Proofs.Try.f38) rfl (by decide +kernel)
theorem k39 : FunOk Go.Proofs.Try.prog 39 A39 := funB_sound (gf := Go.Proofs.Try.f39) rfl (by decide +kernel)
theorem k40 : FunOk Go.Proofs.Try.prog 40 A40 := funB_sound (gf := Go.Proofs.Try.f40) rfl (by decide +kernel)
theorem k41 : FunOk Go.Proofs.Try.prog 41 A41 := funB_sound (gf := Go.Proofs.Try.f41) rfl (by decide +kernel)
theorem k42 : FunOk Go.Proofs.Try.prog 42 A42 := funB_sound (gf := Go.Proofs.Try.f42) rfl (by decide +kernel)
theorem k44 : FunOk Go.Proofs.Try.prog 44 A44 := funB_sound (gf := Go.Proofs.Try.f44) rfl (by decide +kernel)
theorem k45 : FunOk Go.Proofs.Try.prog 45 A45 := funB_sound (gf := Go.Proofs.Try.f45) rfl (by decide +kernel)
theorem k46 : FunOk Go.Proofs.Try.prog 46 A46 := funB_sound (gf := Go.Proofs.Try.f46) rfl (by decide +kernel)
theorem k47 : FunOk Go.Proofs.Try.prog 47 A47 := funB_sound (gf := Go.Proofs.Try.f47) rfl (by decide +kernel)
theorem k48 : FunOk Go.Proofs.Try.prog 48 A48 := funB_sound (gf := Go.Proofs.Try.f48) rfl (by decide +kernel)
theorem k49 : FunOk Go.Proofs.Try.prog 49 A49 := funB_sound (gf := Go.Proofs.Try.f49) rfl (by decide +kernel)
theorem k50 : FunOk Go.Proofs.Try.prog 50 A50 := funB_sound (gf := Go.Proofs.Try.f50) rfl (by decide +kernel)
theorem k51 : FunOk Go.Proofs.Try.prog 51 A51 := funB_sound (gf := Go.Proofs.Try.f51) rfl (by decide +kernel)
theorem k52 : FunOk Go.Proofs.Try.prog 52 A52 := funB_sound (gf := Go.Proofs.Try.f52) rfl (by decide +kernel)
theorem k53 : FunOk Go.Proofs.Try.prog 53 A53 := funB_sound (gf := Go.Proofs.Try.f53) rfl (by decide +kernel)
theorem k54 : FunOk Go.Proofs.Try.prog 54 A54 := funB_sound (gf := Go.Proofs.Try.f54) rfl (by decide +kernel)
theorem k55 : FunOk Go.Proofs.Try.prog 55 A55 := funB_sound (gf := Go.Proofs.Try.f55) rfl (by decide +kernel)
theorem k56 : FunOk Go.Proofs.Try.prog 56 A56 := funB_sound (gf := Go.Proofs.Try.f56) rfl (by decide +kernel)
theorem k58 : FunOk Go.Proofs.Try.prog 58 A58 := funB_sound (gf := Go.Proofs.Try.f58) rfl (by decide +kernel)
theorem k59 : FunOk Go.Proofs.Try.prog 59 A59 := funB_sound (gf := Go.Proofs.Try.f59) rfl (by decide +kernel)
theorem k60 : FunOk Go.Proofs.Try.prog 60 A60 := funB_sound (gf := Go.Proofs.Try.f60) rfl (by decide +kernel)
theorem k61 : FunOk Go.Proofs.Try.prog 61 A61 := funB_sound (gf := Go.Proofs.Try.f61) rfl (by decide +kernel)
theorem k62 : FunOk Go.Proofs.Try.prog 62 A62 := funB_sound (gf := Go.Proofs.Try.f62) rfl (by decide +kernel)
theorem k63 : FunOk Go.Proofs.Try.prog 63 A63 := funB_sound (gf := Go.Proofs.Try.f63) rfl (by decide +kernel)
theorem k64 : FunOk Go.Proofs.Try.prog 64 A64 := funB_sound (gf := Go.Proofs.Try.f64) rfl (by decide +kernel)
theorem k65 : FunOk Go.Proofs.Try.prog 65 A65 := funB_sound (gf := Go.Proofs.Try.f65) rfl (by decide +kernel)
theorem k66 : FunOk Go.Proofs.Try.prog 66 A66 := funB_sound (gf := Go.Proofs.Try.f66) rfl (by decide +kernel)
theorem k67 : FunOk Go.Proofs.Try.prog 67 A67 := funB_sound (gf := Go.Proofs.Try.f67) rfl (by decide +kernel)
theorem k68 : FunOk Go.Proofs.Try.prog 68 A68 := funB_sound (gf := Go.Proofs.Try.f68) rfl (by decide +kernel)
theorem k69 : FunOk Go.Proofs.Try.prog 69 A69 := funB_sound (gf := Go.Proofs.Try.f69) rfl (by decide +kernel)
theorem k70 : FunOk Go.Proofs.Try.prog 70 A70 := funB_sound (gf := Go.Proofs.Try.f70) rfl (by decide +kernel)
theorem k71 : FunOk Go.Proofs.Try.prog 71 A71 := funB_sound (gf := Go.Proofs.Try.f71) rfl (by decide +kernel)
theorem k72 : FunOk Go.Proofs.Try.prog 72 A72 := funB_sound (gf := Go.Proofs.Try.f72) rfl (by decide +kernel)
theorem k73 : FunOk Go.Proofs.Try.prog 73 A73 := funB_sound (gf := Go.Proofs.Try.f73) rfl (by decide +kernel)
theorem k74 : FunOk Go.Proofs.Try.prog 74 A74 := funB_sound (gf := Go.Proofs.Try.f74) rfl (by decide +kernel)
theorem k75 : FunOk Go.Proofs.Try.prog 75 A75 := funB_sound (gf := Go.Proofs.Try.f75) rfl (by decide +kernel)
theorem k76 : FunOk Go.Proofs.Try.prog 76 A76 := funB_sound (gf := Go.Proofs.Try.f76) rfl (by decide +kernel)
theorem k77 : FunOk Go.Proofs.Try.prog 77 A77 := funB_sound (gf := Go.Proofs.Try.f77) rfl (by decide +kernel)
theorem k78 : FunOk Go.Proofs.Try.prog 78 A78 := funB_sound (gf := Go.Proofs.Try.f78) rfl (by decide +kernel)
theorem k79 : FunOk Go.Proofs.Try.prog 79 A79 := funB_sound (gf := Go.Proofs.Try.f79) rfl (by decide +kernel)
theorem k80 : FunOk Go.Proofs.Try.prog 80 A80 := funB_sound (gf := Go.Proofs.Try.f80) rfl (by decide +kernel)
theorem k81 : FunOk Go.Proofs.Try.prog 81 A81 := funB_sound (gf := Go.Proofs.Try.f81) rfl (by decide +kernel)
theorem k82 : FunOk Go.Proofs.Try.prog 82 A82 := funB_sound (gf := Go.Proofs.Try.f82) rfl (by decide +kernel)
theorem k83 : FunOk Go.Proofs.Try.prog 83 A83 := funB_sound (gf := Go.Proofs.Try.f83) rfl (by decide +kernel)
theorem k84 : FunOk Go.Proofs.Try.prog 84 A84 := funB_sound (gf := Go.Proofs.Try.f84) rfl (by decide +kernel)
theorem k85 : FunOk Go.Proofs.Try.prog 85 A85 := funB_sound (gf := Go.Proofs.Try.f85) rfl (by decide +kernel)
theorem k86 : FunOk Go.Proofs.Try.prog 86 A86 := funB_sound (gf := Go.Proofs.Try.f86) rfl (by decide +kernel)
theorem k87 : FunOk Go.Proofs.Try.prog 87 A87 := funB_sound (gf := Go.Proofs.Try.f87) rfl (by decide +kernel)
theorem k88 : FunOk Go.Proofs.Try.prog 88 A88 := funB_sound (gf := Go.Proofs.Try.f88) rfl (by decide +kernel)
theorem k89 : FunOk Go.Proofs.Try.prog 89 A89 := funB_sound (gf := Go.Proofs.Try.f89) rfl (by decide +kernel)
theorem k90 : FunOk Go.Proofs.Try.prog 90 A90 := funB_sound (gf := Go.Proofs.Try.f90) rfl (by decide +kernel)
theorem k91 : FunOk Go.Proofs.Try.prog 91 A91 := funB_sound (gf := Go.Proofs.Try.f91) rfl (by decide +kernel)
theorem k92 : FunOk Go.Proofs.Try.prog 92 A92 := funB_sound (gf := Go.Proofs.Try.f92) rfl (by decide +kernel)
theorem k93 : FunOk Go.Proofs.Try.prog 93 A93 := funB_sound (gf := Go.Proofs.Try.f93) rfl (by decide +kernel)
theorem k94 : FunOk Go.Proofs.Try.prog 94 A94 := funB_sound (gf := Go.Proofs.Try.f94) rfl (by decide +kernel)
theorem k95 : FunOk Go.Proofs.Try.prog 95 A95 := funB_sound (gf := Go.Proofs.Try.f95) rfl (by decide +kernel)
theorem k96 : FunOk Go.Proofs.Try.prog 96 A96 := funB_sound (gf := Go.Proofs.Try.f96) rfl (by decide +kernel)
theorem k97 : FunOk Go.Proofs.Try.prog 97 A97 := funB_sound (gf := Go.Proofs.Try.f97) rfl (by decide +kernel)
theorem k99 : FunOk Go.Proofs.Try.prog 99 A99 := funB_sound (gf := Go.Proofs.Try.f99) rfl (by decide +kernel)
theorem k100 : FunOk Go.Proofs.Try.prog 100 A100 := funB_sound (gf := Go.Proofs.Try.f100) rfl (by decide +kernel)
theorem k101 : FunOk Go.Proofs.Try.prog 101 A101 := funB_sound (gf := Go.Proofs.Try.f101) rfl (by decide +kernel)
theorem k102 : FunOk Go.Proofs.Try.prog 102 A102 := funB_sound (gf := Go.Proofs.Try.f102) rfl (by decide +kernel)
theorem k103 : FunOk Go.Proofs.Try.prog 103 A103 := funB_sound (gf := Go.Proofs.Try.f103) rfl (by decide +kernel)
theorem k104 : FunOk Go.Proofs.Try.prog 104 A104 := funB_sound (gf := Go.Proofs.Try.f104) rfl (by decide +kernel)
theorem k105 : FunOk Go.Proofs.Try.prog 105 A105 := funB_sound (gf := Go.Proofs.Try.f105) rfl (by decide +kernel)
theorem k106 : FunOk Go.Proofs.Try.prog 106 A106 := funB_sound (gf := Go.Proofs.Try.f106) rfl (by decide +kernel)
theorem k107 : FunOk Go.Proofs.Try.prog 107 A107 := funB_sound (gf := Go.Proofs.Try.f107) rfl (by decide +kernel)
theorem k108 : FunOk Go.Proofs.Try.prog 108 A108 := funB_sound (gf := Go.Proofs.Try.f108) rfl (by decide +kernel)
theorem k109 : FunOk Go.Proofs.Try.prog 109 A109 := funB_sound (gf := Go.Proofs.Try.f109) rfl (by decide +kernel)
theorem k110 : FunOk Go.Proofs.Try.prog 110 A110 := funB_sound (gf := Go.Proofs.Try.f110) rfl (by decide +kernel)
theorem k111 : FunOk Go.Proofs.Try.prog 111 A111 := funB_sound (gf := Go.Proofs.Try.f111) rfl (by decide +kernel)
theorem k112 : FunOk Go.Proofs.Try.prog 112 A112 := funB_sound (gf := Go.Proofs.Try.f112) rfl (by decide +kernel)
theorem k113 : FunOk Go.Proofs.Try.prog 113 A113 := funB_sound (gf := Go.Proofs.Try.f113) rfl (by decide +kernel)
theorem k114 : FunOk Go.Proofs.Try.prog 114 A114 := funB_sound (gf := Go.Proofs.Try.f114) rfl (by decide +kernel)
theorem k115 : FunOk Go.Proofs.Try.prog 115 A115 := funB_sound (gf := Go.Proofs.Try.f115) rfl (by decide +kernel)
theorem k116 : FunOk Go.Proofs.Try.prog 116 A116 := funB_sound (gf := Go.Proofs.Try.f116) rfl (by decide +kernel)
theorem k117 : FunOk Go.Proofs.Try.prog 117 A117 := funB_sound (gf := Go.Proofs.Try.f117) rfl (by decide +kernel)
theorem k118 : FunOk Go.Proofs.Try.prog 118 A118 := funB_sound (gf := Go.Proofs.Try.f118) rfl (by decide +kernel)
theorem k119 : FunOk Go.Proofs.Try.prog 119 A119 := funB_sound (gf := Go.Proofs.Try.f119) rfl (by decide +kernel)
theorem k120 : FunOk Go.Proofs.Try.prog 120 A120 := funB_sound (gf := Go.Proofs.Try.f120) rfl (by decide +kernel)
theorem k121 : FunOk Go.Proofs.Try.prog 121 A121 := funB_sound (gf := Go.Proofs.Try.f121) rfl (by decide +kernel)
theorem k122 : FunOk Go.Proofs.Try.prog 122 A122 := funB_sound (gf := Go.Proofs.Try.f122) rfl (by decide +kernel)
theorem k123 : FunOk Go.Proofs.Try.prog 123 A123 := funB_sound (gf := Go.Proofs.Try.f123) rfl (by decide +kernel)
theorem k124 : FunOk Go.Proofs.Try.prog 124 A124 := funB_sound (gf := Go.Proofs.Try.f124) rfl (by decide +kernel)
theorem k125 : FunOk Go.Proofs.Try.prog 125 A125 := funB_sound (gf := Go.Proofs.Try.f125) rfl (by decide +kernel)
theorem k126 : FunOk Go.Proofs.Try.prog 126 A126 := funB_sound (gf := Go.Proofs.Try.f126) rfl (by decide +kernel)
theorem k127 : FunOk Go.Proofs.Try.prog 127 A127 := funB_sound (gf := Go.Proofs.Try.f127) rfl (by decide +kernel)
theorem k128 : FunOk Go.Proofs.Try.prog 128 A128 := funB_sound (gf := Go.Proofs.Try.f128) rfl (by decide +kernel)
theorem k129 : FunOk Go.Proofs.Try.prog 129 A129 := funB_sound (gf := Go.Proofs.Try.f129) rfl (by decide +kernel)
theorem k130 : FunOk Go.Proofs.Try.prog 130 A130 := funB_sound (gf := Go.Proofs.Try.f130) rfl (by decide +kernel)
theorem k131 : FunOk Go.Proofs.Try.prog 131 A131 := funB_sound (gf := Go.Proofs.Try.f131) rfl (by decide +kernel)
theorem k132 : FunOk Go.Proofs.Try.prog 132 A132 := funB_sound (gf := Go.Proofs.Try.f132) rfl (by decide +kernel)
theorem k133 : FunOk Go.Proofs.Try.prog 133 A133 := funB_sound (gf := Go.Proofs.Try.f133) rfl (by decide +kernel)
theorem k134 : FunOk Go.Proofs.Try.prog 134 A134 := funB_sound (gf := Go.Proofs.Try.f134) rfl (by decide +kernel)
theorem k135 : FunOk Go.Proofs.Try.prog 135 A135 := funB_sound (gf := Go.Proofs.Try.f135) rfl (by decide +kernel)
theorem k136 : FunOk Go.Proofs.Try.prog 136 A136 := funB_sound (gf := Go.Proofs.Try.f136) rfl (by decide +kernel)
theorem k137 : FunOk Go.Proofs.Try.prog 137 A137 := funB_sound (gf := Go.Proofs.Try.f137) rfl (by decide +kernel)
theorem k138 : FunOk Go.Proofs.Try.prog 138 A138 := funB_sound (gf := Go.Proofs.Try.f138) rfl (by decide +kernel)
theorem k139 : FunOk Go.Proofs.Try.prog 139 A139 := funB_sound (gf := Go.Proofs.Try.f139) rfl (by decide +kernel)
theorem k140 : FunOk Go.Proofs.Try.prog 140 A140 := funB_sound (gf := Go.Proofs.Try.f140) rfl (by decide +kernel)
theorem k141 : FunOk Go.Proofs.Try.prog 141 A141 := funB_sound (gf := Go.Proofs.Try.f141) rfl (by decide +kernel)
theorem k142 : FunOk Go.Proofs.Try.prog 142 A142 := funB_sound (gf := Go.Proofs.Try.f142) rfl (by decide +kernel)
theorem k143 : FunOk Go.Proofs.Try.prog 143 A143 := funB_sound (gf := Go.Proofs.Try.f143) rfl (by decide +kernel)
theorem k144 : FunOk Go.Proofs.Try.prog 144 A144 := funB_sound (gf := Go.Proofs.Try.f144) rfl (by decide +kernel)
theorem k145 : FunOk Go.Proofs.Try.prog 145 A145 := funB_sound (gf := Go.Proofs.Try.f145) rfl (by decide +kernel)
theorem k146 : FunOk Go.Proofs.Try.prog 146 A146 := funB_sound (gf := Go.Proofs.Try.f146) rfl (by decide +kernel)
theorem FT_good : FT_ok Go.Proofs.Try.prog FT := fun f A h => T.AllT.get (Q := fun f A => FunOk Go.Proofs.Try.prog f A) (show T.AllT _ FT from ⟨none_all, ⟨none_all, ⟨some_all k3, ⟨some_all k7, ⟨some_all k15, ⟨some_all k31, ⟨some_all k63, ⟨some_all k127, trivial, trivial⟩, trivial⟩, ⟨some_all k95, trivial, trivial⟩⟩, ⟨some_all k47, ⟨some_all k79, ⟨some_all k143, trivial, trivial⟩, trivial⟩, ⟨some_all k111, trivial, trivial⟩⟩⟩, ⟨some_all k23, ⟨some_all k39, ⟨some_all k71, ⟨some_all k135, trivial, trivial⟩, trivial⟩, ⟨some_all k103, trivial, trivial⟩⟩, ⟨some_all k55, ⟨some_all k87, trivial, trivial⟩, ⟨some_all k119, trivial, trivial⟩⟩⟩⟩, ⟨some_all k11, ⟨some_all k19, ⟨some_all k35, ⟨some_all k67, ⟨some_all k131, trivial, trivial⟩, trivial⟩, ⟨some_all k99, trivial, trivial⟩⟩, ⟨some_all k51, ⟨some_all k83, trivial, trivial⟩, ⟨some_all k115, trivial, trivial⟩⟩⟩, ⟨some_all k27, ⟨none_all, ⟨some_all k75, ⟨some_all k139, trivial, trivial⟩, trivial⟩, ⟨some_all k107, trivial, trivial⟩⟩, ⟨some_all k59, ⟨some_all k91, trivial, trivial⟩, ⟨some_all k123, trivial, trivial⟩⟩⟩⟩⟩, ⟨some_all k5, ⟨some_all k9, ⟨some_all k17, ⟨some_all k33, ⟨some_all k65, ⟨some_all k129, trivial, trivial⟩, trivial⟩, ⟨some_all k97, trivial, trivial⟩⟩, ⟨some_all k49, ⟨some_all k81, ⟨some_all k145, trivial, trivial⟩, trivial⟩, ⟨some_all k113, trivial, trivial⟩⟩⟩, ⟨some_all k25, ⟨some_all k41, ⟨some_all k73, ⟨some_all k137, trivial, trivial⟩, trivial⟩, ⟨some_all k105, trivial, trivial⟩⟩, ⟨none_all, ⟨some_all k89, trivial, trivial⟩, ⟨some_all k121, trivial, trivial⟩⟩⟩⟩, ⟨some_all k13, ⟨some_all k21, ⟨some_all k37, ⟨some_all k69, ⟨some_all k133, trivial, trivial⟩, trivial⟩, ⟨some_all k101, trivial, trivial⟩⟩, ⟨some_all k53, ⟨some_all k85, trivial, trivial⟩, ⟨some_all k117, trivial, trivial⟩⟩⟩, ⟨some_all k29, ⟨some_all k45, ⟨some_all k77, ⟨some_all k141, trivial, trivial⟩, trivial⟩, ⟨some_all k109, trivial, trivial⟩⟩, ⟨some_all k61, ⟨some_all k93, trivial, trivial⟩, ⟨some_all k125, trivial, trivial⟩⟩⟩⟩⟩⟩, ⟨some_all k2, ⟨some_all k4, ⟨some_all k8, ⟨some_all k16, ⟨some_all k32, ⟨some_all k64, ⟨some_all k128, trivial, trivial⟩, trivial⟩, ⟨some_all k96, trivial, trivial⟩⟩, ⟨some_all k48, ⟨some_all k80, ⟨some_all k144, trivial, trivial⟩, trivial⟩, ⟨some_all k112, trivial, trivial⟩⟩⟩, ⟨some_all k24, ⟨some_all k40, ⟨some_all k72, ⟨some_all k136, trivial, trivial⟩, trivial⟩, ⟨some_all k104, trivial, trivial⟩⟩, ⟨some_all k56, ⟨some_all k88, trivial, trivial⟩, ⟨some_all k120, trivial, trivial⟩⟩⟩⟩, ⟨some_all k12, ⟨some_all k20, ⟨some_all k36, ⟨some_all k68, ⟨some_all k132, trivial, trivial⟩, trivial⟩, ⟨some_all k100, trivial, trivial⟩⟩, ⟨some_all k52, ⟨some_all k84, trivial, trivial⟩, ⟨some_all k116, trivial, trivial⟩⟩⟩, ⟨some_all k28, ⟨some_all k44, ⟨some_all k76, ⟨some_all k140, trivial, trivial⟩, trivial⟩, ⟨some_all k108, trivial, trivial⟩⟩, ⟨some_all k60, ⟨some_all k92, trivial, trivial⟩, ⟨some_all k124, trivial, trivial⟩⟩⟩⟩⟩, ⟨some_all k6, ⟨some_all k10, ⟨some_all k18, ⟨some_all k34, ⟨some_all k66, ⟨some_all k130, trivial, trivial⟩, trivial⟩, trivial⟩, ⟨some_all k50, ⟨some_all k82, ⟨some_all k146, trivial, trivial⟩, trivial⟩, ⟨some_all k114, trivial, trivial⟩⟩⟩, ⟨some_all k26, ⟨some_all k42, ⟨some_all k74, ⟨some_all k138, trivial, trivial⟩, trivial⟩, ⟨some_all k106, trivial, trivial⟩⟩, ⟨some_all k58, ⟨some_all k90, trivial, trivial⟩, ⟨some_all k122, trivial, trivial⟩⟩⟩⟩, ⟨none_all, ⟨some_all k22, ⟨some_all k38, ⟨some_all k70, ⟨some_all k134, trivial, trivial⟩, trivial⟩, ⟨some_all k102, trivial, trivial⟩⟩, ⟨some_all k54, ⟨some_all k86, trivial, trivial⟩, ⟨some_all k118, trivial, trivial⟩⟩⟩, ⟨some_all k30, ⟨some_all k46, ⟨some_all k78, ⟨some_all k142, trivial, trivial⟩, trivial⟩, ⟨some_all k110, trivial, trivial⟩⟩, ⟨some_all k62, ⟨some_all k94, trivial, trivial⟩, ⟨some_all k126, trivial, trivial⟩⟩⟩⟩⟩⟩⟩) h
end AL
set_option linter.unusedVariables false
set_option linter.unusedSimpArgs false
namespace AL
open Go Go.Proofs Go.Shelf Go.RowKit Go.Lib
theorem mixedP : Try.prog.follows .mixedOrders = true := by kernel_rfl
set_option maxHeartbeats 4000000 in
set_option maxRecDepth 100000 in
theorem walk_end57 {w w' : World} {v : Value} (a : Option Addr) (n c m vc : Nat) (b2 : Option Addr) (hm : 0 < m) (hnc : n ≤ c) (hnil : a = none → n = 0 ∧ c = 0) (hrun : ∀ ty, (Builtin.append_ #[25, 25] ty #[.slice a n c, .slice b2 m vc]).run Try.prog w = .ok v w') :
    Calls Try.prog 57 #[.slice a n c, .int .i64 n, .slice b2 m vc] w fun e w2 => e = .returned v ∧ w2 = w' := by
  have hz1 : ¬ ((m : Int) = 0) := by omega
  go_enter Try.func57, Try.ntmps57
  cases a with
  | none =>
    obtain ⟨rfl, rfl⟩ := hnil rfl
    go_wp2_with (at_builtin; refine Lib.wpList_append_run _ rfl _ _ _ _ rfl _ _ rfl rfl _ _ (hrun _) ?_)
    go_ret
    exact ⟨rfl, rfl⟩
  | some a =>
    obtain ⟨ab, ao, asp⟩ := a
    go_wp2_with (at_builtin; refine Lib.wpList_append_run _ rfl _ _ _ _ rfl _ _ rfl rfl _ _ (hrun _) ?_)
    all_goals (go_ret; exact ⟨rfl, rfl⟩)

set_option maxHeartbeats 4000000 in
set_option maxRecDepth 100000 in
theorem walk_shift57 {w W1 : World} (b off n c i m vc : Nat) (b2 : Option Addr) (hi : i < n) (hm : 0 < m) (hroom : n + m ≤ c) (hnm : n + m ≤ 9223372036854775807)
    (hov : ∀ cb, (callFunc 98 #[.slice b2 m vc, .slice (some ⟨b, off + (i + m), none⟩) (n + m - (i + m)) cb]).run Try.prog w = .ok (.value (.bool false)) w)
    (v1 : Value) (hcp1 : ∀ ty dc sc, (Builtin.copy_ #[25, 25] ty #[.slice (some ⟨b, off + (i + m), none⟩) (n + m - (i + m)) dc, .slice (some ⟨b, off + i, none⟩) (n + m - i) sc]).run Try.prog w.drew = .ok v1 W1)
    (v2 : Value) (f : World → World) (hcp2 : ∀ (W : World), W.heap = W1.heap → ∀ ty dc, (Builtin.copy_ #[25, 25] ty #[.slice (some ⟨b, off + i, none⟩) (n + m - i) dc, .slice b2 m vc]).run Try.prog W = .ok v2 (f W)) :
    Calls Try.prog 57 #[.slice (some ⟨b, off, none⟩) n c, .int .i64 i, .slice b2 m vc] w fun e w2 => e = .returned (.slice (some ⟨b, off, none⟩) (n + m) c) ∧ ∃ W, W.heap = W1.heap ∧ W.os = W1.os ∧ W.output = W1.output ∧ w2 = f W := by
  have mixed := mixedP
  have hz1 : ¬ ((m : Int) = 0) := by omega
  have hz2 : ¬ ((i : Int) = (n : Int)) := by omega
  have hw1 : IntKind.i64.wrap ((i : Int) + (m : Int)) = (i : Int) + (m : Int) := by rw [IntKind.wrap_i64]; omega
  have hb1 : (0 : Int) ≤ (i : Int) + (m : Int) := by omega
  have hin : i ≤ n := by omega
  have htn : ((i : Int) + (m : Int)).toNat = i + m := by omega
  have hb2 : ¬ (c = i + m) := by omega
  have hb3 : (i : Int) ≤ (n : Int) + (m : Int) := by omega
  have hb4 : ¬ (c = i) := by omega
  go_enter Try.func57, Try.ntmps57
  go_wp2_with (simp only [hov])
  go_region_law_o (refine step_copy_runI rfl _ _ 25 25 rfl _ _ (by simp [Act.eval, Act.put]) (by simp [Act.eval, Act.put]) (hcp1 _ _ _) ?_)
  go_wp2_with (at_builtin; refine wpList_copy_runI _ rfl _ _ 25 25 rfl _ _ rfl rfl (hcp2 _ rfl _ _) ?_)
  go_ret
  exact ⟨rfl, _, rfl, rfl, rfl, rfl⟩

set_option maxHeartbeats 4000000 in
set_option maxRecDepth 100000 in
theorem walk_grow57 {w W1 : World} (b off n c i m vc g G : Nat) (b2 : Option Addr) (hi : i < n) (hm : 0 < m) (hnc : n ≤ c) (hroom : c < n + m) (hGn : n + m ≤ G) (hG63 : G ≤ 9223372036854775807) (hnm : n + m ≤ 9223372036854775807)
    (hrz : ∀ ty, (Builtin.append_ #[25, 3] ty #[.slice (some ⟨b, off, none⟩) i c, .int .i64 ((n : Int) + (m : Int) - (i : Int))]).run Try.prog w = .ok (.slice (some ⟨g, 0, none⟩) (n + m) G) W1)
    (v1 v2 : Value) (f1 f2 : World → World) (hcp1 : ∀ (W : World), W.heap = W1.heap → ∀ ty dc, (Builtin.copy_ #[25, 25] ty #[.slice (some ⟨g, i, none⟩) (n + m - i) dc, .slice b2 m vc]).run Try.prog W = .ok v1 (f1 W))
    (hf1 : ∀ W W' : World, W.heap = W'.heap → (f1 W).heap = (f1 W').heap)
    (hcp2 : ∀ (W : World), W.heap = (f1 W1).heap → ∀ ty dc sc, (Builtin.copy_ #[25, 25] ty #[.slice (some ⟨g, (i + m), none⟩) (n + m - (i + m)) dc, .slice (some ⟨b, off + i, none⟩) (n - i) sc]).run Try.prog W = .ok v2 (f2 W)) :
    Calls Try.prog 57 #[.slice (some ⟨b, off, none⟩) n c, .int .i64 i, .slice b2 m vc] w fun e w2 => e = .returned (.slice (some ⟨g, 0, none⟩) (n + m) G) ∧ ∃ W W', W.heap = W1.heap ∧ W.os = W1.os ∧ W.output = W1.output ∧ W'.heap = (f1 W).heap ∧ W'.os = (f1 W).os ∧ W'.output = (f1 W).output ∧ w2 = f2 W' := by
  have mixed := mixedP
  have hz1 : ¬ ((m : Int) = 0) := by omega
  have hz2 : ¬ ((i : Int) = (n : Int)) := by omega
  have hz3 : (c : Int) < (n : Int) + (m : Int) := by omega
  have hw1 : IntKind.i64.wrap ((i : Int) + (m : Int)) = (i : Int) + (m : Int) := by rw [IntKind.wrap_i64]; omega
  have hb1 : (0 : Int) ≤ (i : Int) + (m : Int) := by omega
  have hin : i ≤ n := by omega
  have htn : ((i : Int) + (m : Int)).toNat = i + m := by omega
  have hb3 : (i : Int) ≤ (n : Int) := by omega
  have hGi : ¬ (G = i) := by omega
  have hGim : ¬ (G = i + m) := by omega
  have hci : ¬ (c = i) := by omega
  go_enter Try.func57, Try.ntmps57
  go_wp2_with (first
    | (at_builtin; refine Lib.wpList_append_run _ rfl _ _ _ _ rfl _ _ rfl rfl _ _ (hrz _) ?_)
    | (at_builtin; refine wpList_copy_runI _ rfl _ _ 25 25 rfl _ _ rfl rfl (hcp1 _ rfl _ _) ?_)
    | (at_builtin; refine wpList_copy_runI _ rfl _ _ 25 25 rfl _ _ rfl rfl (hcp2 _ (by first | rfl | exact hf1 _ _ rfl) _ _ _) ?_))
  go_region_law_o (refine step_copy_runI rfl _ _ 25 25 rfl (.slice (some ⟨g, (i + m), none⟩) (n + m - (i + m)) (G - (i + m))) (.slice (some ⟨b, off + i, none⟩) (n - i) (c - i)) (by simp [Act.eval, Act.put]) (by simp [Act.eval, Act.put]) (hcp2 _ (by first | rfl | exact hf1 _ _ rfl) 3 (G - (i + m)) (c - i)) ?_)
  go_wp2
  go_ret
  exact ⟨rfl, W1, (f1 W1).drew, rfl, rfl, rfl, rfl, rfl, rfl, rfl⟩
set_option maxHeartbeats 4000000 in
set_option maxRecDepth 100000 in
theorem walk_end14 {w w' : World} {v : Value} (a : Option Addr) (n c m vc : Nat) (b2 : Option Addr) (hm : 0 < m) (hnc : n ≤ c) (hnil : a = none → n = 0 ∧ c = 0) (hrun : ∀ ty, (Builtin.append_ #[33, 33] ty #[.slice a n c, .slice b2 m vc]).run Try.prog w = .ok v w') :
    Calls Try.prog 14 #[.slice a n c, .int .i64 n, .slice b2 m vc] w fun e w2 => e = .returned v ∧ w2 = w' := by
  have hz1 : ¬ ((m : Int) = 0) := by omega
  go_enter Try.func14, Try.ntmps14
  cases a with
  | none =>
    obtain ⟨rfl, rfl⟩ := hnil rfl
    go_wp2_with (at_builtin; refine Lib.wpList_append_run _ rfl _ _ _ _ rfl _ _ rfl rfl _ _ (hrun _) ?_)
    go_ret
    exact ⟨rfl, rfl⟩
  | some a =>
    obtain ⟨ab, ao, asp⟩ := a
    go_wp2_with (at_builtin; refine Lib.wpList_append_run _ rfl _ _ _ _ rfl _ _ rfl rfl _ _ (hrun _) ?_)
    all_goals (go_ret; exact ⟨rfl, rfl⟩)

set_option maxHeartbeats 4000000 in
set_option maxRecDepth 100000 in
theorem walk_shift14 {w W1 : World} (b off n c i m vc : Nat) (b2 : Option Addr) (hi : i < n) (hm : 0 < m) (hroom : n + m ≤ c) (hnm : n + m ≤ 9223372036854775807)
    (hov : ∀ cb, (callFunc 43 #[.slice b2 m vc, .slice (some ⟨b, off + (i + m) * 2, none⟩) (n + m - (i + m)) cb]).run Try.prog w = .ok (.value (.bool false)) w)
    (v1 : Value) (hcp1 : ∀ ty dc sc, (Builtin.copy_ #[33, 33] ty #[.slice (some ⟨b, off + (i + m) * 2, none⟩) (n + m - (i + m)) dc, .slice (some ⟨b, off + i * 2, none⟩) (n + m - i) sc]).run Try.prog w.drew = .ok v1 W1)
    (v2 : Value) (f : World → World) (hcp2 : ∀ (W : World), W.heap = W1.heap → ∀ ty dc, (Builtin.copy_ #[33, 33] ty #[.slice (some ⟨b, off + i * 2, none⟩) (n + m - i) dc, .slice b2 m vc]).run Try.prog W = .ok v2 (f W)) :
    Calls Try.prog 14 #[.slice (some ⟨b, off, none⟩) n c, .int .i64 i, .slice b2 m vc] w fun e w2 => e = .returned (.slice (some ⟨b, off, none⟩) (n + m) c) ∧ ∃ W, W.heap = W1.heap ∧ W.os = W1.os ∧ W.output = W1.output ∧ w2 = f W := by
  have mixed := mixedP
  have hz1 : ¬ ((m : Int) = 0) := by omega
  have hz2 : ¬ ((i : Int) = (n : Int)) := by omega
  have hw1 : IntKind.i64.wrap ((i : Int) + (m : Int)) = (i : Int) + (m : Int) := by rw [IntKind.wrap_i64]; omega
  have hb1 : (0 : Int) ≤ (i : Int) + (m : Int) := by omega
  have hin : i ≤ n := by omega
  have htn : ((i : Int) + (m : Int)).toNat = i + m := by omega
  have hb2 : ¬ (c = i + m) := by omega
  have hb3 : (i : Int) ≤ (n : Int) + (m : Int) := by omega
  have hb4 : ¬ (c = i) := by omega
  go_enter Try.func14, Try.ntmps14
  go_wp2_with (simp only [hov])
  go_region_law_o (refine step_copy_runI rfl _ _ 33 33 rfl _ _ (by simp [Act.eval, Act.put]) (by simp [Act.eval, Act.put]) (hcp1 _ _ _) ?_)
  go_wp2_with (at_builtin; refine wpList_copy_runI _ rfl _ _ 33 33 rfl _ _ rfl rfl (hcp2 _ rfl _ _) ?_)
  go_ret
  exact ⟨rfl, _, rfl, rfl, rfl, rfl⟩

set_option maxHeartbeats 4000000 in
set_option maxRecDepth 100000 in
theorem walk_grow14 {w W1 : World} (b off n c i m vc g G : Nat) (b2 : Option Addr) (hi : i < n) (hm : 0 < m) (hnc : n ≤ c) (hroom : c < n + m) (hGn : n + m ≤ G) (hG63 : G ≤ 9223372036854775807) (hnm : n + m ≤ 9223372036854775807)
    (hrz : ∀ ty, (Builtin.append_ #[33, 3] ty #[.slice (some ⟨b, off, none⟩) i c, .int .i64 ((n : Int) + (m : Int) - (i : Int))]).run Try.prog w = .ok (.slice (some ⟨g, 0, none⟩) (n + m) G) W1)
    (v1 v2 : Value) (f1 f2 : World → World) (hcp1 : ∀ (W : World), W.heap = W1.heap → ∀ ty dc, (Builtin.copy_ #[33, 33] ty #[.slice (some ⟨g, i * 2, none⟩) (n + m - i) dc, .slice b2 m vc]).run Try.prog W = .ok v1 (f1 W))
    (hf1 : ∀ W W' : World, W.heap = W'.heap → (f1 W).heap = (f1 W').heap)
    (hcp2 : ∀ (W : World), W.heap = (f1 W1).heap → ∀ ty dc sc, (Builtin.copy_ #[33, 33] ty #[.slice (some ⟨g, (i + m) * 2, none⟩) (n + m - (i + m)) dc, .slice (some ⟨b, off + i * 2, none⟩) (n - i) sc]).run Try.prog W = .ok v2 (f2 W)) :
    Calls Try.prog 14 #[.slice (some ⟨b, off, none⟩) n c, .int .i64 i, .slice b2 m vc] w fun e w2 => e = .returned (.slice (some ⟨g, 0, none⟩) (n + m) G) ∧ ∃ W W', W.heap = W1.heap ∧ W.os = W1.os ∧ W.output = W1.output ∧ W'.heap = (f1 W).heap ∧ W'.os = (f1 W).os ∧ W'.output = (f1 W).output ∧ w2 = f2 W' := by
  have mixed := mixedP
  have hz1 : ¬ ((m : Int) = 0) := by omega
  have hz2 : ¬ ((i : Int) = (n : Int)) := by omega
  have hz3 : (c : Int) < (n : Int) + (m : Int) := by omega
  have hw1 : IntKind.i64.wrap ((i : Int) + (m : Int)) = (i : Int) + (m : Int) := by rw [IntKind.wrap_i64]; omega
  have hb1 : (0 : Int) ≤ (i : Int) + (m : Int) := by omega
  have hin : i ≤ n := by omega
  have htn : ((i : Int) + (m : Int)).toNat = i + m := by omega
  have hb3 : (i : Int) ≤ (n : Int) := by omega
  have hGi : ¬ (G = i) := by omega
  have hGim : ¬ (G = i + m) := by omega
  have hci : ¬ (c = i) := by omega
  go_enter Try.func14, Try.ntmps14
  go_wp2_with (first
    | (at_builtin; refine Lib.wpList_append_run _ rfl _ _ _ _ rfl _ _ rfl rfl _ _ (hrz _) ?_)
    | (at_builtin; refine wpList_copy_runI _ rfl _ _ 33 33 rfl _ _ rfl rfl (hcp1 _ rfl _ _) ?_)
    | (at_builtin; refine wpList_copy_runI _ rfl _ _ 33 33 rfl _ _ rfl rfl (hcp2 _ (by first | rfl | exact hf1 _ _ rfl) _ _ _) ?_))
  go_region_law_o (refine step_copy_runI rfl _ _ 33 33 rfl (.slice (some ⟨g, (i + m) * 2, none⟩) (n + m - (i + m)) (G - (i + m))) (.slice (some ⟨b, off + i * 2, none⟩) (n - i) (c - i)) (by simp [Act.eval, Act.put]) (by simp [Act.eval, Act.put]) (hcp2 _ (by first | rfl | exact hf1 _ _ rfl) 3 (G - (i + m)) (c - i)) ?_)
  go_wp2
  go_ret
  exact ⟨rfl, W1, (f1 W1).drew, rfl, rfl, rfl, rfl, rfl, rfl, rfl⟩
end AL
set_option linter.unusedVariables false
set_option linter.unusedSimpArgs false
namespace AL
open Go Go.Proofs Go.Shelf Go.RowKit Go.Lib
set_option maxRecDepth 100000 in
theorem nat_ins1 : NatOk Try.prog 57 (insA 1) := by
  have hinfo : (Try.prog.info? 3).map (fun i => (i.zero, i.size, i.bytes)) = some (some (Value.int .i64 0), 1, 8) := by kernel_rfl
  obtain ⟨i, hi, hz, hs, hb⟩ := info_parts hinfo
  have hsz : ∀ w, (Go.sizeOf 3).run Try.prog w = .ok i.size w := fun w => run_sizeT (P := Try.prog) (t := 3) (n := i.size) (by simp [sizeT, hi]) w
  have W : InsW Try.prog 57 25 3 3 98 i (Value.int .i64 0) := {
    T := ⟨Try.underlying25, ⟨_, Try.underlying25⟩, hi, hz, by rw [hs]; rfl, by omega⟩
    int := Try.underlying3
    bytes := by omega
    enter := fun args w => callFunc_run Try.func57 (by decide) rfl args w
    wend := fun a n c m vc b2 h1 h2 h3 h4 => walk_end57 a n c m vc b2 h1 h2 h3 h4
    wshift := by
      intro w W1 b off n c k m vc b2 h1 h2 h3 h4 hov v1 hcp1 v2 f2 hcp2
      simp only [hs, Nat.mul_one] at hov hcp1 hcp2
      exact walk_shift57 b off n c k m vc b2 h1 h2 h3 h4 hov v1 hcp1 v2 f2 hcp2
    wgrow := by
      intro w W1 b off n c k m vc g G b2 h1 h2 h3 h4 h5 h6 h7 hrz v1 v2 f1 f2 hcp1 hf1 hcp2
      simp only [hs, Nat.mul_one] at hcp1 hcp2
      exact walk_grow57 b off n c k m vc g G b2 h1 h2 h3 h4 h5 h6 h7 hrz v1 v2 f1 f2 hcp1 hf1 hcp2
    wov := by
      intro w a b la ca lb cb arrA arrB tA tB hA hB hk hap
      rw [run_callFunc_extern Try.func98 (by kernel_rfl) (by kernel_rfl) (by kernel_rfl) (e := Extern.SlicesOverlaps.overlaps #[25, 25] #[4]) (by kernel_rfl),
        run_ov Try.underlying25 hsz w a b la ca lb cb hA hB hk hap]
      rfl }
  have h0 : NatOk Try.prog 57 (insA i.size) := ins_nat W
  rw [hs] at h0
  exact @h0
set_option maxRecDepth 100000 in
theorem nat_ins2 : NatOk Try.prog 14 (insA 2) := by
  have hinfo : (Try.prog.info? 36).map (fun i => (i.zero, i.size, i.bytes)) = some (some (Value.agg #[.int .i64 0, .int .i64 0]), 2, 16) := by kernel_rfl
  obtain ⟨i, hi, hz, hs, hb⟩ := info_parts hinfo
  have hsz : ∀ w, (Go.sizeOf 36).run Try.prog w = .ok i.size w := fun w => run_sizeT (P := Try.prog) (t := 36) (n := i.size) (by simp [sizeT, hi]) w
  have W : InsW Try.prog 14 33 36 3 43 i (Value.agg #[.int .i64 0, .int .i64 0]) := {
    T := ⟨Try.underlying33, ⟨_, Try.underlying33⟩, hi, hz, by rw [hs]; rfl, by omega⟩
    int := Try.underlying3
    bytes := by omega
    enter := fun args w => callFunc_run Try.func14 (by decide) rfl args w
    wend := fun a n c m vc b2 h1 h2 h3 h4 => walk_end14 a n c m vc b2 h1 h2 h3 h4
    wshift := by
      intro w W1 b off n c k m vc b2 h1 h2 h3 h4 hov v1 hcp1 v2 f2 hcp2
      simp only [hs, Nat.mul_one] at hov hcp1 hcp2
      exact walk_shift14 b off n c k m vc b2 h1 h2 h3 h4 hov v1 hcp1 v2 f2 hcp2
    wgrow := by
      intro w W1 b off n c k m vc g G b2 h1 h2 h3 h4 h5 h6 h7 hrz v1 v2 f1 f2 hcp1 hf1 hcp2
      simp only [hs, Nat.mul_one] at hcp1 hcp2
      exact walk_grow14 b off n c k m vc g G b2 h1 h2 h3 h4 h5 h6 h7 hrz v1 v2 f1 f2 hcp1 hf1 hcp2
    wov := by
      intro w a b la ca lb cb arrA arrB tA tB hA hB hk hap
      rw [run_callFunc_extern Try.func43 (by kernel_rfl) (by kernel_rfl) (by kernel_rfl) (e := Extern.SlicesOverlaps.overlaps #[33, 33] #[4]) (by kernel_rfl),
        run_ov Try.underlying33 hsz w a b la ca lb cb hA hB hk hap]
      rfl }
  have h0 : NatOk Try.prog 14 (insA i.size) := ins_nat W
  rw [hs] at h0
  exact @h0
end AL
set_option linter.unusedVariables false
set_option linter.unusedSimpArgs false
namespace AL
open Go
def NT : NatT := fun k => if k = 14 then some (insA 2) else if k = 57 then some (insA 1) else if k = 17 then some (fun l h => match l with | [] => some (.bool true, h) | _ => none) else none

/-- a spool, from which k numbers may be taken yet -/
def Spool (m : Nat) (h : AH) (s k : Nat) : Prop :=
  m ≤ s ∧ ∃ (silk : AV) (n : Nat) (c : Nat) (st : Int), h.get s = some (.cells [silk, .int .i64 c, .int .u64 st]) ∧ Silk m h silk n ∧ c + k < 4611686018427387904

/-- all but one object stand -/
def But (s : Nat) (h h' : AH) : Prop := h'.size = h.size ∧ ∀ i, i ≠ s → h'.get i = h.get i

theorem c_turn {h : AH} {m s k : Nat} (hs : Spool m h s (k + 1)) : WF FT NT 42 [.ptr (some (s, 0))] h fun v h' => (∃ x : Nat, v = I x ∧ x ≤ 65535) ∧ Spool m h' s k ∧ But s h h' := by
  obtain ⟨hms, silk, n, c, st, hg, hsl, hc⟩ := hs
  have hcg := cells_of hg
  have hwg := wcells_of hg
  have fin : ∀ x : Int, ∃ y : Nat, andI .i64 x 65535 = (y : Int) ∧ y ≤ 65535 := by
    intro x
    refine ⟨(BitVec.ofInt 64 x &&& BitVec.ofInt 64 65535).toNat, ?_, ?_⟩
    · unfold andI
      have : (BitVec.ofInt 64 x &&& BitVec.ofInt 64 65535).toNat ≤ 65535 := by rw [BitVec.toNat_and]; exact Nat.and_le_right
      rw [wr (by omega) (by show ((BitVec.ofInt 64 x &&& BitVec.ofInt 64 65535).toNat : Int) < _; omega)]; rfl
    · rw [BitVec.toNat_and]; exact Nat.and_le_right
  have fr : ∀ a b c : Int, ∀ v1 v2 v3 : AV, True := fun _ _ _ _ _ _ => trivial
  refine WF.body' (A := A42) rfl rfl rfl fun R r => ?_
  have hlen := hsl.1
  have hw1 : wrapA .i64 ((c : Int) + 1) = ((c + 1 : Nat) : Int) := by rw [wr (by omega) (by omega)]; omega
  have last : ∀ (x : Int) (h' : AH), (∃ st', h' = h.set s (.cells [silk, .int .i64 ((c + 1 : Nat) : Int), .int .u64 st'])) ∨ (∃ o st', h' = (h.set s o).set s (.cells [silk, .int .i64 ((c + 1 : Nat) : Int), .int .u64 st'])) ∨ (∃ o o' st', h' = ((h.set s o).set s o').set s (.cells [silk, .int .i64 ((c + 1 : Nat) : Int), .int .u64 st'])) → R (.int .i64 (andI .i64 x 65535)) h' := by
    intro x h' hh
    obtain ⟨y, hy, hy'⟩ := fin x
    have key : ∃ st', h'.get s = some (.cells [silk, .int .i64 ((c + 1 : Nat) : Int), .int .u64 st']) ∧ But s h h' := by
      rcases hh with ⟨st', rfl⟩ | ⟨o, st', rfl⟩ | ⟨o, o', st', rfl⟩
      · exact ⟨st', by rw [AH.get_put, if_pos rfl], rfl, fun i hi => by rw [AH.get_put, if_neg hi]⟩
      · exact ⟨st', by rw [AH.get_put, if_pos rfl], rfl, fun i hi => by rw [AH.get_put, if_neg hi, AH.get_put, if_neg hi]⟩
      · exact ⟨st', by rw [AH.get_put, if_pos rfl], rfl, fun i hi => by rw [AH.get_put, if_neg hi, AH.get_put, if_neg hi, AH.get_put, if_neg hi]⟩
    obtain ⟨st', hg', hbut⟩ := key
    refine r _ _ ⟨⟨y, by rw [hy], hy'⟩, ⟨hms, silk, n, c + 1, st', hg', hsl.keep fun i hi => hbut.2 i (by omega), by omega⟩, hbut⟩
  by_cases h0 : n = 0
  · subst h0
    have h1 : (0 : Int) < ((c + 1 : Nat) : Int) := by omega
    simp only [wxs, ↓reduceIte, Nat.reduceEqDiff, Nat.reduceAdd, Nat.reduceLT, reduceCtorEq, Int.reduceLE, Int.reduceLT, Int.reduceEq, Int.reduceNeg, Nat.reduceLeDiff, Nat.reduceBEq, wms, A42, hcg, hwg, hlen, hw1, h1, b_shr, Int.natCast_zero, Int.lt_irrefl]
    exact last _ _ (.inr (.inl ⟨_, _, rfl⟩))
  · have h0' : ((0 : Int) < (n : Int)) := by omega
    have hn0 : (n : Int) ≠ 0 := by omega
    have hmod : c % n < n := Nat.mod_lt _ (by omega)
    obtain ⟨cs, hsc, hb⟩ := hsl.2.2 (by omega)
    obtain ⟨b, hcb⟩ := hb (cs[c % n]'(by rw [hsc.1]; omega)) (List.getElem_mem _)
    obtain ⟨q, hix, hld⟩ := hsc.ix (x := ((c % n : Nat) : Int)) rfl (w := .int .u8 b) (by rw [← hcb]; exact List.getElem?_eq_getElem _)
    by_cases h1 : (n : Int) < ((c + 1 : Nat) : Int)
    · simp only [wxs, ↓reduceIte, Nat.reduceEqDiff, Nat.reduceAdd, Nat.reduceLT, reduceCtorEq, Int.reduceLE, Int.reduceLT, Int.reduceEq, Int.reduceNeg, Nat.reduceLeDiff, Nat.reduceBEq, wms, A42, hcg, hwg, hlen, hw1, h0', h1, b_shr, b_rem, hn0, hix, hld, tmod_nat]
      exact last _ _ (.inr (.inr ⟨_, _, _, rfl⟩))
    · simp only [wxs, ↓reduceIte, Nat.reduceEqDiff, Nat.reduceAdd, Nat.reduceLT, reduceCtorEq, Int.reduceLE, Int.reduceLT, Int.reduceEq, Int.reduceNeg, Nat.reduceLeDiff, Nat.reduceBEq, wms, A42, hcg, hwg, hlen, hw1, h0', h1, b_shr, b_rem, hn0, hix, hld, tmod_nat]
      exact last _ _ (.inr (.inl ⟨_, _, rfl⟩))

theorem c_upto {h : AH} {m s k : Nat} (hs : Spool m h s (k + 1)) {n : Int} (hn : -9223372036854775808 ≤ n + 1 ∧ n + 1 < 9223372036854775808) :
    WF FT NT 13 [.ptr (some (s, 0)), I n] h fun v h' => (∃ x : Nat, v = I x ∧ (x : Int) < max 1 (n + 1)) ∧ Spool m h' s k ∧ But s h h' := by
  have hw : wrapA .i64 (n + 1) = n + 1 := wr (by omega) (by omega)
  have hm : (max 1 (n + 1)) ≠ 0 := by omega
  refine WF.body' (A := A13) rfl rfl rfl fun R r => ?_
  simp only [wxs, ↓reduceIte, Nat.reduceEqDiff, Nat.reduceAdd, Nat.reduceLT, reduceCtorEq, Int.reduceLE, Int.reduceLT, Int.reduceEq, Int.reduceNeg, Nat.reduceLeDiff, Nat.reduceBEq, A13]
  refine (c_turn hs).mono ?_
  rintro v h' ⟨⟨x, rfl, hx⟩, hs', hb⟩
  simp only [wxs, ↓reduceIte, Nat.reduceEqDiff, Nat.reduceAdd, Nat.reduceLT, reduceCtorEq, Int.reduceLE, Int.reduceLT, Int.reduceEq, Int.reduceNeg, Nat.reduceLeDiff, Nat.reduceBEq, hw, b_rem, hm]
  refine r _ _ ⟨⟨x % (max 1 (n + 1)).toNat, ?_, ?_⟩, hs', hb⟩
  · have : max 1 (n + 1) = (((max 1 (n + 1)).toNat : Nat) : Int) := by omega
    rw [this, tmod_nat]; simp
  · have := Nat.mod_lt x (show 0 < (max 1 (n + 1)).toNat by omega)
    omega

theorem c_from {h : AH} {m s k : Nat} (hs : Spool m h s (k + 1)) {lo hi : Int} (hl : 0 ≤ lo ∧ lo ≤ hi ∧ hi < 4611686018427387904) :
    WF FT NT 9 [.ptr (some (s, 0)), I lo, I hi] h fun v h' => (∃ x : Int, v = I x ∧ lo ≤ x ∧ x ≤ hi) ∧ Spool m h' s k ∧ But s h h' := by
  have hw : wrapA .i64 (hi - lo) = hi - lo := wr (by omega) (by omega)
  refine WF.body' (A := A9) rfl rfl rfl fun R r => ?_
  simp only [wxs, ↓reduceIte, Nat.reduceEqDiff, Nat.reduceAdd, Nat.reduceLT, reduceCtorEq, Int.reduceLE, Int.reduceLT, Int.reduceEq, Int.reduceNeg, Nat.reduceLeDiff, Nat.reduceBEq, A9, hw]
  refine (c_upto hs (by omega)).mono ?_
  rintro v h' ⟨⟨x, rfl, hx⟩, hs', hb⟩
  have hw2 : wrapA .i64 (lo + x) = lo + x := wr (by omega) (by omega)
  simp only [wxs, ↓reduceIte, Nat.reduceEqDiff, Nat.reduceAdd, Nat.reduceLT, reduceCtorEq, Int.reduceLE, Int.reduceLT, Int.reduceEq, Int.reduceNeg, Nat.reduceLeDiff, Nat.reduceBEq, hw2]
  exact r _ _ ⟨⟨lo + x, rfl, by omega, by omega⟩, hs', hb⟩

theorem c_once {h : AH} {m s k : Nat} (hs : Spool m h s (k + 1)) {n : Int} (hn : 0 ≤ n ∧ n < 4611686018427387904) :
    WF FT NT 21 [.ptr (some (s, 0)), I n] h fun v h' => (∃ b : Bool, v = .bool b) ∧ Spool m h' s k ∧ But s h h' := by
  have hw : wrapA .i64 (n - 1) = n - 1 := wr (by omega) (by omega)
  refine WF.body' (A := A21) rfl rfl rfl fun R r => ?_
  simp only [wxs, ↓reduceIte, Nat.reduceEqDiff, Nat.reduceAdd, Nat.reduceLT, reduceCtorEq, Int.reduceLE, Int.reduceLT, Int.reduceEq, Int.reduceNeg, Nat.reduceLeDiff, Nat.reduceBEq, A21, hw]
  refine (c_upto hs (by omega)).mono ?_
  rintro v h' ⟨⟨x, rfl, hx⟩, hs', hb⟩
  simp only [wxs, ↓reduceIte, Nat.reduceEqDiff, Nat.reduceAdd, Nat.reduceLT, reduceCtorEq, Int.reduceLE, Int.reduceLT, Int.reduceEq, Int.reduceNeg, Nat.reduceLeDiff, Nat.reduceBEq]
  exact r _ _ ⟨⟨_, rfl⟩, hs', hb⟩

theorem Bytes.wound {h : AH} {m : Nat} {v : AV} (hb : Bytes m h v) (hm : m ≤ h.size) :
    WF FT NT 7 [v] h fun r h' => r = .ptr (some (h.size, 0)) ∧ Spool m h' h.size 4000000000000000000 ∧ h'.size = h.size + 1 ∧ Keeps h.size h h' := by
  obtain ⟨n, hs⟩ := hb
  have hlen := hs.1
  have h1 := hs.2.1
  refine WF.body' (A := A7) rfl rfl rfl fun R r => ?_
  simp only [wxs, ↓reduceIte, Nat.reduceEqDiff, Nat.reduceAdd, Nat.reduceLT, reduceCtorEq, Int.reduceLE, Int.reduceLT, Int.reduceEq, Int.reduceNeg, Nat.reduceLeDiff, Nat.reduceBEq, A7, hlen, h1]
  refine r _ _ ⟨rfl, ⟨hm, v, n, 0, _, at_push_new _, hs.keep fun i hi => at_push_old _ (by omega), by omega⟩, rfl, Keeps.self.push _⟩

theorem Spool.keep {h h' : AH} {m s k : Nat} (hs : Spool m h s k) (hk : ∀ i, i < m → h'.get i = h.get i) (hks : h'.get s = h.get s) : Spool m h' s k := by
  obtain ⟨hms, silk, n, c, st, hg, hsl, hc⟩ := hs
  exact ⟨hms, silk, n, c, st, by rw [hks]; exact hg, hsl.keep hk, hc⟩
theorem Spool.less {h : AH} {m s k k' : Nat} (hs : Spool m h s k) (hk : k' ≤ k) : Spool m h s k' := by
  obtain ⟨hms, silk, n, c, st, hg, hsl, hc⟩ := hs
  exact ⟨hms, silk, n, c, st, hg, hsl, by omega⟩

theorem perm_set : ∀ (m : List Int) (j : Nat) (x : Int) (hj : j < m.length), (m.set j x ++ [m[j]]).Perm (x :: m)
  | a :: m, 0, x, _ => by
    simp only [List.set_cons_zero, List.getElem_cons_zero, List.cons_append]
    exact (List.perm_append_singleton a m).cons x
  | a :: m, j + 1, x, hj => by
    simp only [List.set_cons_succ, List.getElem_cons_succ, List.cons_append]
    exact ((perm_set m j x (by simpa using hj)).cons a).trans (List.Perm.swap _ _ _)

theorem order_step (l : List Int) (j k : Nat) (hjk : j ≤ k) (hk : k < l.length) (x : Int) : (((l.set k (l.getD j 0)).set j x).take (k + 1)).Perm (x :: l.take k) := by
  have hj : j < l.length := by omega
  have e0 : l.getD j 0 = l[j] := by simp [hj]
  rw [e0]
  by_cases e : j = k
  · subst e
    rw [List.set_set, List.take_add_one, List.take_set_of_le (Nat.le_refl _)]
    simp only [List.getElem?_set_self hk, Option.toList_some]
    exact List.perm_append_singleton x _
  · have hlt : j < k := by omega
    have h1 : ((l.set k l[j]).set j x).take (k + 1) = (l.take k).set j x ++ [l[j]] := by
      rw [List.take_add_one, List.getElem?_set_ne (by omega), List.getElem?_set_self hk, List.take_set, List.take_set_of_le (Nat.le_refl _)]
      rfl
    have h2 : l[j] = (l.take k)[j]'(by simp; omega) := by simp
    rw [h1, h2]
    exact perm_set _ _ _ _

theorem c_order {h : AH} {m s k : Nat} (hsz : s < h.size) {n : Nat} (hn : n ≤ 1000) (hs : Spool m h s (k + n)) :
    WF FT NT 8 [.ptr (some (s, 0)), I n] h fun v h' => (∃ l : List Int, l.Perm ((List.range n).map Int.ofNat) ∧ Own h.size h' 1 v l.length (l.map I)) ∧ Spool m h' s k ∧ (∀ i, i < h.size → i ≠ s → h'.get i = h.get i) ∧ h.size ≤ h'.size := by
  refine WF.body' (A := A8) rfl rfl rfl fun R r => ?_
  have hmx : max 0 (n : Int) = (n : Int) := by omega
  have hmk := mk_1 (h := h) (.int .i64 0) 8 n n n rfl rfl (by simp only [maxRoom]; omega) (by simp only [maxRoom]; omega)
  simp only [wxs, ↓reduceIte, Nat.reduceEqDiff, Nat.reduceAdd, Nat.reduceLT, reduceCtorEq, Int.reduceLE, Int.reduceLT, Int.reduceEq, Int.reduceNeg, Nat.reduceLeDiff, Nat.reduceBEq, A8, hmx, hmk]
  refine WS.range (cnt := 13) (lim := 12) (S := List Int) n (fun _ _ => [(0, .ptr (some (s, 0))), (5, .slice (some (h.size, 0)) n (.known n))])
    (fun i l h' => l.length = n ∧ (l.take i).Perm ((List.range i).map Int.ofNat) ∧ Own h.size h' 1 (.slice (some (h.size, 0)) n (.known n)) n (l.map I) ∧ Spool m h' s (k + (n - i)) ∧ (∀ i, i < h.size → i ≠ s → h'.get i = h.get i) ∧ h.size ≤ h'.size)
    (fun a h' => ∃ l : List Int, a.at 5 = .slice (some (h.size, 0)) n (.known n) ∧ l.length = n ∧ l.Perm ((List.range n).map Int.ofNat) ∧ Own h.size h' 1 (.slice (some (h.size, 0)) n (.known n)) n (l.map I) ∧ Spool m h' s k ∧ (∀ i, i < h.size → i ≠ s → h'.get i = h.get i) ∧ h.size ≤ h'.size)
    (List.replicate n 0) (by decide) (by omega) (fun _ _ => rfl) (by simp only [wxs, ↓reduceIte, Nat.reduceEqDiff, Nat.reduceAdd, Nat.reduceLT, reduceCtorEq, Int.reduceLE, Int.reduceLT, Int.reduceEq, Int.reduceNeg, Nat.reduceLeDiff, Nat.reduceBEq]) (by simp only [wxs, ↓reduceIte, Nat.reduceEqDiff, Nat.reduceAdd, Nat.reduceLT, reduceCtorEq, Int.reduceLE, Int.reduceLT, Int.reduceEq, Int.reduceNeg, Nat.reduceLeDiff, Nat.reduceBEq]) (by simp only [wxs, ↓reduceIte, Nat.reduceEqDiff, Nat.reduceAdd, Nat.reduceLT, reduceCtorEq, Int.reduceLE, Int.reduceLT, Int.reduceEq, Int.reduceNeg, Nat.reduceLeDiff, Nat.reduceBEq]) ?_ ?_ ?_ ?_
  · refine ⟨by simp, by simp, ?_, ?_, fun i hi _ => at_push_old _ hi, Nat.le_succ _⟩
    · have := Own.new (n0 := h.size) h (List.replicate n (.int .i64 0)) 1 n (Nat.le_refl _) (by simp)
      simpa using this
    · exact (hs.keep (fun i hi => at_push_old _ (by have := hs.1; omega)) (at_push_old _ hsz)).less (by omega)
  · rintro Q i l a h' hi qn qc qx qj hc hl he ⟨hln, hpm, hown, hsp, hold, hle⟩
    simp only [env_cons, env_nil, and_true] at he
    obtain ⟨h0, h5⟩ := he
    simp only [wxs, ↓reduceIte, Nat.reduceEqDiff, Nat.reduceAdd, Nat.reduceLT, reduceCtorEq, Int.reduceLE, Int.reduceLT, Int.reduceEq, Int.reduceNeg, Nat.reduceLeDiff, Nat.reduceBEq, h0, h5, hc]
    refine (c_upto (k := k + (n - (i + 1))) (hsp.less (by omega)) (by omega)).mono ?_
    rintro v h2 ⟨⟨j, rfl, hj⟩, hsp2, hb⟩
    have hji : j ≤ i := by omega
    have hown2 : Own h.size h2 1 (.slice (some (h.size, 0)) n (.known n)) n (l.map I) := hown.of_same (by have := hb.1; omega) fun x _ hx => hb.2 x (by have := hown.sid_ge x hx; omega)
    have hsl2 : Ints h2.size h2 (.slice (some (h.size, 0)) n (.known n)) l := by rw [Ints, hln]; exact hown2.sl
    obtain ⟨q1, hix1, hld1⟩ := hsl2.ix (x := (j : Int)) (i := j) rfl (by omega)
    obtain ⟨q2, h3, hix2, hst2, hown3, hsz3, hold3⟩ := hown2.put (x := (i : Int)) (i := i) rfl hi (w := I (l.getD j 0)) (one_int _ _)
    obtain ⟨q3, h4, hix3, hst3, hown4, hsz4, hold4⟩ := hown3.put (x := (j : Int)) (i := j) rfl (by omega) (w := I i) (one_int _ _)
    have hq : q3 = q1 := by
      have h1 := hix1 h2
      have h2 := hix3 h2
      rw [h1] at h2; simpa using h2.symm
    subst hq
    simp only [wxs, ↓reduceIte, Nat.reduceEqDiff, Nat.reduceAdd, Nat.reduceLT, reduceCtorEq, Int.reduceLE, Int.reduceLT, Int.reduceEq, Int.reduceNeg, Nat.reduceLeDiff, Nat.reduceBEq, h0, h5, hc, hix1, hld1, hix2, hst2, hst3]
    refine qn ((l.set i (l.getD j 0)).set j i) _ _ (by simp only [wxs, ↓reduceIte, Nat.reduceEqDiff, Nat.reduceAdd, Nat.reduceLT, reduceCtorEq, Int.reduceLE, Int.reduceLT, Int.reduceEq, Int.reduceNeg, Nat.reduceLeDiff, Nat.reduceBEq, hc]) (by simp only [wxs, ↓reduceIte, Nat.reduceEqDiff, Nat.reduceAdd, Nat.reduceLT, reduceCtorEq, Int.reduceLE, Int.reduceLT, Int.reduceEq, Int.reduceNeg, Nat.reduceLeDiff, Nat.reduceBEq, hl]) (by simp only [wxs, ↓reduceIte, Nat.reduceEqDiff, Nat.reduceAdd, Nat.reduceLT, reduceCtorEq, Int.reduceLE, Int.reduceLT, Int.reduceEq, Int.reduceNeg, Nat.reduceLeDiff, Nat.reduceBEq, h0, h5]) ⟨by simpa using hln, ?_, ?_, ?_, ?_, ?_⟩
    · have h1 := order_step l j i hji (by omega) i
      refine h1.trans ?_
      rw [List.range_succ, List.map_append]
      exact (hpm.cons _).trans (List.perm_append_singleton _ _).symm
    · rw [List.map_set, List.map_set]; exact hown4
    · have hms := hsp2.1
      have key : ∀ x, x ≤ s → h4.get x = h2.get x := fun x hx => by
        rw [hold4 x (by simp only [AV.sid, ne_eq, Option.some.injEq]; omega), hold3 x (by simp only [AV.sid, ne_eq, Option.some.injEq]; omega)]
      exact hsp2.keep (fun x hx => key x (by omega)) (key s (Nat.le_refl _))
    · intro x hx hxs
      rw [hold4 x (by simp only [AV.sid, ne_eq, Option.some.injEq]; omega), hold3 x (by simp only [AV.sid, ne_eq, Option.some.injEq]; omega), hb.2 x hxs, hold x hx hxs]
    · have := hb.1; omega
  · rintro l a h' he ⟨hln, hpm, hown, hsp, hold, hle⟩
    simp only [env_cons, env_nil, and_true] at he
    exact ⟨l, he.2, hln, by rwa [List.take_of_length_le (by omega)] at hpm, hown, by simpa using hsp, hold, hle⟩
  · rintro a h' ⟨l, h5, hln, hpm, hown, hsp, hold, hle⟩
    simp only [wxs, ↓reduceIte, Nat.reduceEqDiff, Nat.reduceAdd, Nat.reduceLT, reduceCtorEq, Int.reduceLE, Int.reduceLT, Int.reduceEq, Int.reduceNeg, Nat.reduceLeDiff, Nat.reduceBEq, h5]
    exact r _ _ ⟨⟨l, hpm, by rw [hln]; exact hown⟩, hsp, hold, hle⟩
end AL
set_option linter.unusedVariables false
set_option linter.unusedSimpArgs false
namespace AL
open Go

/-- a function value that tells of an element whether something is so, and changes nothing that stands -/
def Pred (h : AH) (f : AV) (p : AV → Bool) (xs : List AV) : Prop :=
  ∃ fid cap, f = .func (.func fid) [] cap ∧ ∀ h' x, Keeps h.size h h' → x ∈ xs → WF FT NT fid (x :: cap) h' fun v h'' => v = .bool (p x) ∧ Keeps h'.size h' h''

theorem Pred.keep {h h' : AH} {f : AV} {p : AV → Bool} {xs : List AV} (hp : Pred h f p xs) (hk : Keeps h.size h h') : Pred h' f p xs := by
  obtain ⟨fid, cap, rfl, hf⟩ := hp
  exact ⟨fid, cap, rfl, fun h'' x hk' hx => hf h'' x (hk.trans hk' hk.2.1) hx⟩

theorem take_snoc {α : Type} (l : List α) (i : Nat) (hi : i < l.length) : l.take (i + 1) = l.take i ++ [l[i]] := by
  rw [List.take_add_one, List.getElem?_eq_getElem hi]; rfl

/-- slices.Index at ints -/
theorem c_index {h : AH} {m : Nat} {v : AV} {l : List Int} (hs : Ints m h v l) (hn : l.length < 4611686018427387904) (x : Int) :
    WF FT NT 92 [v, I x] h fun r h' => h' = h ∧ ((r = I (-1) ∧ x ∉ l) ∨ ∃ j : Nat, r = I j ∧ l[j]? = some x ∧ x ∉ l.take j) := by
  have hlen := fun h => hs.len h
  refine WF.body' (A := A92) rfl rfl rfl fun R r => ?_
  simp only [wxs, ↓reduceIte, Nat.reduceEqDiff, Nat.reduceAdd, Nat.reduceLT, reduceCtorEq, Int.reduceLE, Int.reduceLT, Int.reduceEq, Int.reduceNeg, Nat.reduceLeDiff, Nat.reduceBEq, A92, hlen]
  refine WS.range (cnt := 8) (lim := 7) (S := Unit) l.length (fun _ _ => [(0, v), (1, I x)]) (fun i _ h' => h' = h ∧ x ∉ l.take i) (fun a h' => h' = h ∧ x ∉ l) () (by decide) (by omega) (fun _ _ => rfl)
    (by simp only [wxs, ↓reduceIte, Nat.reduceEqDiff, Nat.reduceAdd, Nat.reduceLT, reduceCtorEq, Int.reduceLE, Int.reduceLT, Int.reduceEq, Int.reduceNeg, Nat.reduceLeDiff, Nat.reduceBEq]) (by simp only [wxs, ↓reduceIte, Nat.reduceEqDiff, Nat.reduceAdd, Nat.reduceLT, reduceCtorEq, Int.reduceLE, Int.reduceLT, Int.reduceEq, Int.reduceNeg, Nat.reduceLeDiff, Nat.reduceBEq]) (by simp only [wxs, ↓reduceIte, Nat.reduceEqDiff, Nat.reduceAdd, Nat.reduceLT, reduceCtorEq, Int.reduceLE, Int.reduceLT, Int.reduceEq, Int.reduceNeg, Nat.reduceLeDiff, Nat.reduceBEq]) ⟨rfl, by simp⟩ ?_ ?_ ?_
  · rintro Q i _ a h' hi qn qc qx qj hc hl he ⟨rfl, hx⟩
    simp only [env_cons, env_nil, and_true] at he
    obtain ⟨h0, h1⟩ := he
    obtain ⟨q, hix, hld⟩ := hs.ix (x := (i : Int)) (i := i) rfl hi
    have hget : l.getD i 0 = l[i] := by simp [hi]
    by_cases he : x = l.getD i 0
    · simp only [wxs, ↓reduceIte, Nat.reduceEqDiff, Nat.reduceAdd, Nat.reduceLT, reduceCtorEq, Int.reduceLE, Int.reduceLT, Int.reduceEq, Int.reduceNeg, Nat.reduceLeDiff, Nat.reduceBEq, h0, h1, hc, hix, hld, he]
      refine qj _ _ _ (by simp) (by simp) ?_
      simp only [wxs, ↓reduceIte, Nat.reduceEqDiff, Nat.reduceAdd, Nat.reduceLT, reduceCtorEq, Int.reduceLE, Int.reduceLT, Int.reduceEq, Int.reduceNeg, Nat.reduceLeDiff, Nat.reduceBEq, h0, h1, hc]
      exact r _ _ ⟨rfl, .inr ⟨i, rfl, by rw [he, hget]; exact List.getElem?_eq_getElem hi, hx⟩⟩
    · simp only [wxs, ↓reduceIte, Nat.reduceEqDiff, Nat.reduceAdd, Nat.reduceLT, reduceCtorEq, Int.reduceLE, Int.reduceLT, Int.reduceEq, Int.reduceNeg, Nat.reduceLeDiff, Nat.reduceBEq, h0, h1, hc, hix, hld, he]
      refine qn () _ _ (by simp only [wxs, ↓reduceIte, Nat.reduceEqDiff, Nat.reduceAdd, Nat.reduceLT, reduceCtorEq, Int.reduceLE, Int.reduceLT, Int.reduceEq, Int.reduceNeg, Nat.reduceLeDiff, Nat.reduceBEq, hc]) (by simp only [wxs, ↓reduceIte, Nat.reduceEqDiff, Nat.reduceAdd, Nat.reduceLT, reduceCtorEq, Int.reduceLE, Int.reduceLT, Int.reduceEq, Int.reduceNeg, Nat.reduceLeDiff, Nat.reduceBEq, hl]) (by simp only [wxs, ↓reduceIte, Nat.reduceEqDiff, Nat.reduceAdd, Nat.reduceLT, reduceCtorEq, Int.reduceLE, Int.reduceLT, Int.reduceEq, Int.reduceNeg, Nat.reduceLeDiff, Nat.reduceBEq, h0, h1]) ⟨rfl, ?_⟩
      rw [take_snoc l i hi, List.mem_append, List.mem_singleton, ← hget]
      exact fun e => e.elim hx he
  · rintro _ a h' _ ⟨rfl, hx⟩
    exact ⟨rfl, by rwa [List.take_of_length_le (Nat.le_refl _)] at hx⟩
  · rintro a h' ⟨rfl, hx⟩
    simp only [wxs, ↓reduceIte, Nat.reduceEqDiff, Nat.reduceAdd, Nat.reduceLT, reduceCtorEq, Int.reduceLE, Int.reduceLT, Int.reduceEq, Int.reduceNeg, Nat.reduceLeDiff, Nat.reduceBEq]
    exact r _ _ ⟨rfl, .inl ⟨rfl, hx⟩⟩

/-- slices.Contains at ints -/
theorem c_contains {h : AH} {m : Nat} {v : AV} {l : List Int} (hs : Ints m h v l) (hn : l.length < 4611686018427387904) (x : Int) :
    WF FT NT 50 [v, I x] h fun r h' => h' = h ∧ r = .bool (decide (x ∈ l)) := by
  refine WF.body' (A := A50) rfl rfl rfl fun R r => ?_
  simp only [wxs, ↓reduceIte, Nat.reduceEqDiff, Nat.reduceAdd, Nat.reduceLT, reduceCtorEq, Int.reduceLE, Int.reduceLT, Int.reduceEq, Int.reduceNeg, Nat.reduceLeDiff, Nat.reduceBEq, A50]
  refine (c_index hs hn x).mono ?_
  rintro v h' ⟨rfl, ⟨rfl, hx⟩ | ⟨j, rfl, hj, _⟩⟩
  · simp only [wxs, ↓reduceIte, Nat.reduceEqDiff, Nat.reduceAdd, Nat.reduceLT, reduceCtorEq, Int.reduceLE, Int.reduceLT, Int.reduceEq, Int.reduceNeg, Nat.reduceLeDiff, Nat.reduceBEq]
    exact r _ _ ⟨rfl, by simp [hx]⟩
  · have hj0 : (0 : Int) ≤ (j : Int) := by omega
    simp only [wxs, ↓reduceIte, Nat.reduceEqDiff, Nat.reduceAdd, Nat.reduceLT, reduceCtorEq, Int.reduceLE, Int.reduceLT, Int.reduceEq, Int.reduceNeg, Nat.reduceLeDiff, Nat.reduceBEq, hj0]
    exact r _ _ ⟨rfl, by simp [List.mem_of_getElem? hj]⟩

/-- slices.IndexFunc at ints -/
theorem c_indexFunc {h : AH} {m : Nat} {v f : AV} {l : List Int} {p : AV → Bool} (hs : Ints m h v l) (hm : m ≤ h.size) (hn : l.length < 4611686018427387904) (hp : Pred h f p (l.map I)) :
    WF FT NT 139 [v, f] h fun r h' => Keeps h.size h h' ∧ ((r = I (-1) ∧ ∀ y ∈ l, p (I y) = false) ∨ ∃ j : Nat, r = I j ∧ (∃ y, l[j]? = some y ∧ p (I y) = true) ∧ ∀ y ∈ l.take j, p (I y) = false) := by
  have hlen := fun h => hs.len h
  refine WF.body' (A := A139) rfl rfl rfl fun R r => ?_
  simp only [wxs, ↓reduceIte, Nat.reduceEqDiff, Nat.reduceAdd, Nat.reduceLT, reduceCtorEq, Int.reduceLE, Int.reduceLT, Int.reduceEq, Int.reduceNeg, Nat.reduceLeDiff, Nat.reduceBEq, A139, hlen]
  refine WS.range (cnt := 8) (lim := 7) (S := Unit) l.length (fun _ _ => [(0, v), (1, f)]) (fun i _ h' => Keeps h.size h h' ∧ ∀ y ∈ l.take i, p (I y) = false) (fun a h' => Keeps h.size h h' ∧ ∀ y ∈ l, p (I y) = false) () (by decide) (by omega) (fun _ _ => rfl)
    (by simp only [wxs, ↓reduceIte, Nat.reduceEqDiff, Nat.reduceAdd, Nat.reduceLT, reduceCtorEq, Int.reduceLE, Int.reduceLT, Int.reduceEq, Int.reduceNeg, Nat.reduceLeDiff, Nat.reduceBEq]) (by simp only [wxs, ↓reduceIte, Nat.reduceEqDiff, Nat.reduceAdd, Nat.reduceLT, reduceCtorEq, Int.reduceLE, Int.reduceLT, Int.reduceEq, Int.reduceNeg, Nat.reduceLeDiff, Nat.reduceBEq]) (by simp only [wxs, ↓reduceIte, Nat.reduceEqDiff, Nat.reduceAdd, Nat.reduceLT, reduceCtorEq, Int.reduceLE, Int.reduceLT, Int.reduceEq, Int.reduceNeg, Nat.reduceLeDiff, Nat.reduceBEq]) ⟨.self, by simp⟩ ?_ ?_ ?_
  · rintro Q i _ a h' hi qn qc qx qj hc hl he ⟨hk, hx⟩
    simp only [env_cons, env_nil, and_true] at he
    obtain ⟨h0, h1⟩ := he
    obtain ⟨q, hix, hld⟩ := Ints.ix (hs.keep (hk.lower hm)) (x := (i : Int)) (i := i) rfl hi
    have hget : l.getD i 0 = l[i] := by simp [hi]
    obtain ⟨fid, cap, rfl, hf⟩ := hp
    simp only [wxs, ↓reduceIte, Nat.reduceEqDiff, Nat.reduceAdd, Nat.reduceLT, reduceCtorEq, Int.reduceLE, Int.reduceLT, Int.reduceEq, Int.reduceNeg, Nat.reduceLeDiff, Nat.reduceBEq, h0, h1, hc, hix, hld]
    refine (hf h' (I (l.getD i 0)) hk (List.mem_map_of_mem (by rw [hget]; exact List.getElem_mem _))).mono ?_
    rintro v2 h2 ⟨rfl, hk2⟩
    have hk3 := hk.trans hk2 hk.2.1
    simp only [wxs, ↓reduceIte, Nat.reduceEqDiff, Nat.reduceAdd, Nat.reduceLT, reduceCtorEq, Int.reduceLE, Int.reduceLT, Int.reduceEq, Int.reduceNeg, Nat.reduceLeDiff, Nat.reduceBEq]
    refine condX_if _ _ _ (fun hb => ?_) (fun hb => ?_)
    · simp only [wxs, ↓reduceIte, Nat.reduceEqDiff, Nat.reduceAdd, Nat.reduceLT, reduceCtorEq, Int.reduceLE, Int.reduceLT, Int.reduceEq, Int.reduceNeg, Nat.reduceLeDiff, Nat.reduceBEq, h0, h1, hc]
      refine qj _ _ _ (by simp) (by simp) ?_
      simp only [wxs, ↓reduceIte, Nat.reduceEqDiff, Nat.reduceAdd, Nat.reduceLT, reduceCtorEq, Int.reduceLE, Int.reduceLT, Int.reduceEq, Int.reduceNeg, Nat.reduceLeDiff, Nat.reduceBEq, h0, h1, hc]
      exact r _ _ ⟨hk3, .inr ⟨i, rfl, ⟨_, List.getElem?_eq_getElem hi, by rw [← hget]; exact hb⟩, hx⟩⟩
    · simp only [wxs, ↓reduceIte, Nat.reduceEqDiff, Nat.reduceAdd, Nat.reduceLT, reduceCtorEq, Int.reduceLE, Int.reduceLT, Int.reduceEq, Int.reduceNeg, Nat.reduceLeDiff, Nat.reduceBEq, h0, h1, hc]
      refine qn () _ _ (by simp only [wxs, ↓reduceIte, Nat.reduceEqDiff, Nat.reduceAdd, Nat.reduceLT, reduceCtorEq, Int.reduceLE, Int.reduceLT, Int.reduceEq, Int.reduceNeg, Nat.reduceLeDiff, Nat.reduceBEq, hc]) (by simp only [wxs, ↓reduceIte, Nat.reduceEqDiff, Nat.reduceAdd, Nat.reduceLT, reduceCtorEq, Int.reduceLE, Int.reduceLT, Int.reduceEq, Int.reduceNeg, Nat.reduceLeDiff, Nat.reduceBEq, hl]) (by simp only [wxs, ↓reduceIte, Nat.reduceEqDiff, Nat.reduceAdd, Nat.reduceLT, reduceCtorEq, Int.reduceLE, Int.reduceLT, Int.reduceEq, Int.reduceNeg, Nat.reduceLeDiff, Nat.reduceBEq, h0, h1]) ⟨hk3, ?_⟩
      rw [take_snoc l i hi]
      intro y hy
      rcases List.mem_append.1 hy with hy | hy
      · exact hx y hy
      · rw [List.mem_singleton.1 hy, ← hget]; exact hb
  · rintro _ a h' _ ⟨hk, hx⟩
    exact ⟨hk, by rwa [List.take_of_length_le (Nat.le_refl _)] at hx⟩
  · rintro a h' ⟨hk, hx⟩
    simp only [wxs, ↓reduceIte, Nat.reduceEqDiff, Nat.reduceAdd, Nat.reduceLT, reduceCtorEq, Int.reduceLE, Int.reduceLT, Int.reduceEq, Int.reduceNeg, Nat.reduceLeDiff, Nat.reduceBEq]
    exact r _ _ ⟨hk, .inl ⟨rfl, hx⟩⟩

/-- slices.ContainsFunc at ints -/
theorem c_containsFunc {h : AH} {m : Nat} {v f : AV} {l : List Int} {p : AV → Bool} (hs : Ints m h v l) (hm : m ≤ h.size) (hn : l.length < 4611686018427387904) (hp : Pred h f p (l.map I)) :
    WF FT NT 110 [v, f] h fun r h' => Keeps h.size h h' ∧ r = .bool (l.any fun y => p (I y)) := by
  refine WF.body' (A := A110) rfl rfl rfl fun R r => ?_
  simp only [wxs, ↓reduceIte, Nat.reduceEqDiff, Nat.reduceAdd, Nat.reduceLT, reduceCtorEq, Int.reduceLE, Int.reduceLT, Int.reduceEq, Int.reduceNeg, Nat.reduceLeDiff, Nat.reduceBEq, A110]
  refine (c_indexFunc hs hm hn hp).mono ?_
  rintro v h' ⟨hk, ⟨rfl, hx⟩ | ⟨j, rfl, ⟨y, hj, hy⟩, _⟩⟩
  · simp only [wxs, ↓reduceIte, Nat.reduceEqDiff, Nat.reduceAdd, Nat.reduceLT, reduceCtorEq, Int.reduceLE, Int.reduceLT, Int.reduceEq, Int.reduceNeg, Nat.reduceLeDiff, Nat.reduceBEq]
    exact r _ _ ⟨hk, by simpa using hx⟩
  · have hj0 : (0 : Int) ≤ (j : Int) := by omega
    simp only [wxs, ↓reduceIte, Nat.reduceEqDiff, Nat.reduceAdd, Nat.reduceLT, reduceCtorEq, Int.reduceLE, Int.reduceLT, Int.reduceEq, Int.reduceNeg, Nat.reduceLeDiff, Nat.reduceBEq, hj0]
    refine r _ _ ⟨hk, ?_⟩
    simp only [AV.bool.injEq]
    exact (List.any_eq_true.2 ⟨y, List.mem_of_getElem? hj, hy⟩).symm

/-- lace.every at ints -/
theorem c_every {h : AH} {m : Nat} {v f : AV} {l : List Int} {p : AV → Bool} (hs : Ints m h v l) (hm : m ≤ h.size) (hn : l.length < 4611686018427387904) (hp : Pred h f p (l.map I)) :
    WF FT NT 73 [v, f] h fun r h' => Keeps h.size h h' ∧ r = .bool (l.all fun y => p (I y)) := by
  refine WF.body' (A := A73) rfl rfl rfl fun R r => ?_
  have hp0 := hp
  obtain ⟨fid, cap, rfl, hf⟩ := hp
  simp only [wxs, ↓reduceIte, Nat.reduceEqDiff, Nat.reduceAdd, Nat.reduceLT, reduceCtorEq, Int.reduceLE, Int.reduceLT, Int.reduceEq, Int.reduceNeg, Nat.reduceLeDiff, Nat.reduceBEq, A73]
  have hk1 : Keeps h.size h (h.push (.cells [.func (.func fid) [] cap])) := Keeps.self.push _
  refine (c_containsFunc (p := fun x => !p x) (hs.keep (hk1.lower hm)) (Nat.le_trans hm hk1.2.1) hn ?_).mono ?_
  · refine ⟨_, _, rfl, fun h' x hk hx => ?_⟩
    refine WF.body' (A := A111) rfl rfl rfl fun R r => ?_
    have hc : cellsAt h' h.size = some [.func (.func fid) [] cap] := by rw [cellsAt_congr (hk.2.2 h.size (Nat.lt_succ_self _)), cells_push, if_pos rfl]
    simp only [wxs, ↓reduceIte, Nat.reduceEqDiff, Nat.reduceAdd, Nat.reduceLT, reduceCtorEq, Int.reduceLE, Int.reduceLT, Int.reduceEq, Int.reduceNeg, Nat.reduceLeDiff, Nat.reduceBEq, wms, A111, hc]
    refine (hf h' x (hk1.trans hk hk1.2.1) hx).mono ?_
    rintro v2 h2 ⟨rfl, hk2⟩
    simp only [wxs, ↓reduceIte, Nat.reduceEqDiff, Nat.reduceAdd, Nat.reduceLT, reduceCtorEq, Int.reduceLE, Int.reduceLT, Int.reduceEq, Int.reduceNeg, Nat.reduceLeDiff, Nat.reduceBEq]
    exact r _ _ ⟨rfl, hk2⟩
  · rintro v2 h2 ⟨hk2, rfl⟩
    simp only [wxs, ↓reduceIte, Nat.reduceEqDiff, Nat.reduceAdd, Nat.reduceLT, reduceCtorEq, Int.reduceLE, Int.reduceLT, Int.reduceEq, Int.reduceNeg, Nat.reduceLeDiff, Nat.reduceBEq]
    refine r _ _ ⟨hk1.trans hk2 hk1.2.1, ?_⟩
    simp [List.not_any_eq_all_not]

end AL
set_option linter.unusedVariables false
set_option linter.unusedSimpArgs false
namespace AL
open Go

theorem c_in (h : AH) (n lo hi : Int) : WF FT NT 45 [I n, I lo, I hi] h fun v h' => h' = h ∧ v = .bool (decide (lo ≤ n ∧ n ≤ hi)) := by
  refine WF.body' (A := A45) rfl rfl rfl fun R r => ?_
  by_cases hlo : lo ≤ n
  · simp only [wxs, ↓reduceIte, Nat.reduceEqDiff, Nat.reduceAdd, Nat.reduceLT, reduceCtorEq, Int.reduceLE, Int.reduceLT, Int.reduceEq, Int.reduceNeg, Nat.reduceLeDiff, Nat.reduceBEq, A45, hlo]
    exact r _ _ ⟨rfl, by simp [hlo]⟩
  · simp only [wxs, ↓reduceIte, Nat.reduceEqDiff, Nat.reduceAdd, Nat.reduceLT, reduceCtorEq, Int.reduceLE, Int.reduceLT, Int.reduceEq, Int.reduceNeg, Nat.reduceLeDiff, Nat.reduceBEq, A45, hlo]
    exact r _ _ ⟨rfl, by simp [hlo]⟩

theorem c_twice {h : AH} {m : Nat} {v : AV} {l : List Int} (hs : Ints m h v l) (hn : l.length < 4611686018427387904) :
    WF FT NT 77 [v] h fun r h' => h' = h ∧ r = .bool (decide (¬ l.Nodup)) := by
  have hlen := fun h => hs.len h
  refine WF.body' (A := A77) rfl rfl rfl fun R r => ?_
  simp only [wxs, ↓reduceIte, Nat.reduceEqDiff, Nat.reduceAdd, Nat.reduceLT, reduceCtorEq, Int.reduceLE, Int.reduceLT, Int.reduceEq, Int.reduceNeg, Nat.reduceLeDiff, Nat.reduceBEq, A77, hlen]
  refine WS.range (cnt := 7) (lim := 6) (S := Unit) l.length (fun _ _ => [(0, v), (5, v)]) (fun i _ h' => h' = h ∧ (l.take i).Nodup) (fun a h' => h' = h ∧ l.Nodup) () (by decide) (by omega) (fun _ _ => rfl)
    (by simp only [wxs, ↓reduceIte, Nat.reduceEqDiff, Nat.reduceAdd, Nat.reduceLT, reduceCtorEq, Int.reduceLE, Int.reduceLT, Int.reduceEq, Int.reduceNeg, Nat.reduceLeDiff, Nat.reduceBEq]) (by simp only [wxs, ↓reduceIte, Nat.reduceEqDiff, Nat.reduceAdd, Nat.reduceLT, reduceCtorEq, Int.reduceLE, Int.reduceLT, Int.reduceEq, Int.reduceNeg, Nat.reduceLeDiff, Nat.reduceBEq]) (by simp only [wxs, ↓reduceIte, Nat.reduceEqDiff, Nat.reduceAdd, Nat.reduceLT, reduceCtorEq, Int.reduceLE, Int.reduceLT, Int.reduceEq, Int.reduceNeg, Nat.reduceLeDiff, Nat.reduceBEq]) ⟨rfl, by simp⟩ ?_ ?_ ?_
  · rintro Q i _ a h' hi qn qc qx qj hc hl he ⟨rfl, hx⟩
    simp only [env_cons, env_nil, and_true] at he
    obtain ⟨h0, h1⟩ := he
    obtain ⟨q, hix, hld⟩ := hs.ix (x := (i : Int)) (i := i) rfl hi
    have hget : l.getD i 0 = l[i] := by simp [hi]
    obtain ⟨v', hsl, hv', _⟩ := hs.take (Nat.lt_succ_self 0) (x := (i : Int)) rfl (Nat.le_of_lt hi)
    have hli : (l.take i).length = i := by rw [List.length_take]; omega
    have hv2 : Ints m h' v' (l.take i) := by
      rw [Ints, hli, List.map_take]; simpa using hv'
    simp only [wxs, ↓reduceIte, Nat.reduceEqDiff, Nat.reduceAdd, Nat.reduceLT, reduceCtorEq, Int.reduceLE, Int.reduceLT, Int.reduceEq, Int.reduceNeg, Nat.reduceLeDiff, Nat.reduceBEq, h0, h1, hc, hix, hld, hsl]
    refine (c_contains hv2 (by omega) _).mono ?_
    rintro v2 h2 ⟨rfl, rfl⟩
    simp only [wxs, ↓reduceIte, Nat.reduceEqDiff, Nat.reduceAdd, Nat.reduceLT, reduceCtorEq, Int.reduceLE, Int.reduceLT, Int.reduceEq, Int.reduceNeg, Nat.reduceLeDiff, Nat.reduceBEq]
    refine condX_dec _ _ _ (fun hb => ?_) (fun hb => ?_)
    · simp only [wxs, ↓reduceIte, Nat.reduceEqDiff, Nat.reduceAdd, Nat.reduceLT, reduceCtorEq, Int.reduceLE, Int.reduceLT, Int.reduceEq, Int.reduceNeg, Nat.reduceLeDiff, Nat.reduceBEq, h0, h1, hc]
      refine qj _ _ _ (by simp) (by simp) ?_
      simp only [wxs, ↓reduceIte, Nat.reduceEqDiff, Nat.reduceAdd, Nat.reduceLT, reduceCtorEq, Int.reduceLE, Int.reduceLT, Int.reduceEq, Int.reduceNeg, Nat.reduceLeDiff, Nat.reduceBEq, h0, h1, hc]
      refine r _ _ ⟨rfl, ?_⟩
      have : ¬ l.Nodup := by
        intro hnd
        rw [← List.take_append_drop i l, List.nodup_append] at hnd
        refine hnd.2.2 _ hb _ ?_ rfl
        rw [hget, List.drop_eq_getElem_cons hi]; exact List.mem_cons_self
      simp [this]
    · simp only [wxs, ↓reduceIte, Nat.reduceEqDiff, Nat.reduceAdd, Nat.reduceLT, reduceCtorEq, Int.reduceLE, Int.reduceLT, Int.reduceEq, Int.reduceNeg, Nat.reduceLeDiff, Nat.reduceBEq, h0, h1, hc]
      refine qn () _ _ (by simp only [wxs, ↓reduceIte, Nat.reduceEqDiff, Nat.reduceAdd, Nat.reduceLT, reduceCtorEq, Int.reduceLE, Int.reduceLT, Int.reduceEq, Int.reduceNeg, Nat.reduceLeDiff, Nat.reduceBEq, hc]) (by simp only [wxs, ↓reduceIte, Nat.reduceEqDiff, Nat.reduceAdd, Nat.reduceLT, reduceCtorEq, Int.reduceLE, Int.reduceLT, Int.reduceEq, Int.reduceNeg, Nat.reduceLeDiff, Nat.reduceBEq, hl]) (by simp only [wxs, ↓reduceIte, Nat.reduceEqDiff, Nat.reduceAdd, Nat.reduceLT, reduceCtorEq, Int.reduceLE, Int.reduceLT, Int.reduceEq, Int.reduceNeg, Nat.reduceLeDiff, Nat.reduceBEq, h0, h1]) ⟨rfl, ?_⟩
      rw [take_snoc l i hi, List.nodup_append]
      refine ⟨hx, by simp, fun a ha b hb' => ?_⟩
      rw [List.mem_singleton] at hb'
      subst hb'
      rw [← hget]
      intro e; rw [e] at ha; exact hb ha
  · rintro _ a h' _ ⟨rfl, hx⟩
    exact ⟨rfl, by rwa [List.take_of_length_le (Nat.le_refl _)] at hx⟩
  · rintro a h' ⟨rfl, hx⟩
    simp only [wxs, ↓reduceIte, Nat.reduceEqDiff, Nat.reduceAdd, Nat.reduceLT, reduceCtorEq, Int.reduceLE, Int.reduceLT, Int.reduceEq, Int.reduceNeg, Nat.reduceLeDiff, Nat.reduceBEq]
    exact r _ _ ⟨rfl, by simp [hx]⟩

/-- an order of n cards -/
def IsOrder (l : List Int) (n : Nat) : Prop := l.length = n ∧ (∀ x ∈ l, 0 ≤ x ∧ x < n) ∧ l.Nodup
theorem IsOrder.of_perm {l : List Int} {n : Nat} (hp : l.Perm ((List.range n).map Int.ofNat)) : IsOrder l n := by
  refine ⟨by simpa using hp.length_eq, fun x hx => ?_, ?_⟩
  · have := hp.mem_iff.1 hx
    simp only [List.mem_map, List.mem_range] at this
    obtain ⟨y, hy, rfl⟩ := this
    simp only [Int.ofNat_eq_natCast]
    omega
  · rw [hp.nodup_iff]
    exact List.Pairwise.map _ (fun a b (hab : a ≠ b) => by simp only [Int.ofNat_eq_natCast, ne_eq]; omega) (List.nodup_range (n := n))

theorem c_ordered {h : AH} {m : Nat} {v : AV} {l : List Int} (hs : Ints m h v l) (hm : m ≤ h.size) (n : Nat) (hn : n < 1000000) (ho : IsOrder l n) :
    WF FT NT 85 [v, I n] h fun r h' => Keeps h.size h h' ∧ r = I 0 := by
  have hlen := fun h => hs.len h
  refine WF.body' (A := A85) rfl rfl rfl fun R r => ?_
  obtain ⟨h1, h2, h3⟩ := ho
  have hln : (l.length : Int) = (n : Int) := by omega
  have hk1 : Keeps h.size h (h.push (.cells [I n])) := Keeps.self.push _
  simp only [wxs, ↓reduceIte, Nat.reduceEqDiff, Nat.reduceAdd, Nat.reduceLT, reduceCtorEq, Int.reduceLE, Int.reduceLT, Int.reduceEq, Int.reduceNeg, Nat.reduceLeDiff, Nat.reduceBEq, wms, A85, hlen, hln]
  refine (c_every (p := fun x => match x with | .int _ k => decide (0 ≤ k ∧ k ≤ (n : Int) - 1) | _ => false) (hs.keep (hk1.lower hm)) (Nat.le_trans hm hk1.2.1) (by omega) ?_).mono ?_
  · refine ⟨_, _, rfl, fun h' x hk hx => ?_⟩
    obtain ⟨k, _, rfl⟩ := List.mem_map.1 hx
    have hc : cellsAt h' h.size = some [I n] := by rw [cellsAt_congr (hk.2.2 h.size (Nat.lt_succ_self _)), cells_push, if_pos rfl]
    have hw : wrapA .i64 ((n : Int) - 1) = (n : Int) - 1 := wr (by omega) (by omega)
    refine WF.body' (A := A126) rfl rfl rfl fun R r => ?_
    simp only [wxs, ↓reduceIte, Nat.reduceEqDiff, Nat.reduceAdd, Nat.reduceLT, reduceCtorEq, Int.reduceLE, Int.reduceLT, Int.reduceEq, Int.reduceNeg, Nat.reduceLeDiff, Nat.reduceBEq, wms, A126, hc, hw]
    refine (c_in _ _ _ _).mono ?_
    rintro v2 h2 ⟨rfl, rfl⟩
    simp only [wxs, ↓reduceIte, Nat.reduceEqDiff, Nat.reduceAdd, Nat.reduceLT, reduceCtorEq, Int.reduceLE, Int.reduceLT, Int.reduceEq, Int.reduceNeg, Nat.reduceLeDiff, Nat.reduceBEq]
    exact r _ _ ⟨rfl, .self⟩
  · rintro v2 h2' ⟨hk2, rfl⟩
    have hall : (l.all fun y => decide (0 ≤ y ∧ y ≤ (n : Int) - 1)) = true := by
      rw [List.all_eq_true]; intro y hy; have := h2 y hy; simp; omega
    have hk3 := hk1.trans hk2 hk1.2.1
    simp only [wxs, ↓reduceIte, Nat.reduceEqDiff, Nat.reduceAdd, Nat.reduceLT, reduceCtorEq, Int.reduceLE, Int.reduceLT, Int.reduceEq, Int.reduceNeg, Nat.reduceLeDiff, Nat.reduceBEq, hall]
    refine (c_twice (hs.keep (hk3.lower hm)) (by omega)).mono ?_
    rintro v3 h3' ⟨rfl, rfl⟩
    simp only [wxs, ↓reduceIte, Nat.reduceEqDiff, Nat.reduceAdd, Nat.reduceLT, reduceCtorEq, Int.reduceLE, Int.reduceLT, Int.reduceEq, Int.reduceNeg, Nat.reduceLeDiff, Nat.reduceBEq, h3]
    exact r _ _ ⟨hk3, rfl⟩

theorem c_alone {h : AH} {m : Nat} {v : AV} {l : List Int} (hs : Ints m h v l) (hm : m ≤ h.size) (n : Nat) (hn : 1 ≤ n ∧ n ≤ 7) (ho : IsOrder l n) :
    WF FT NT 40 [v] h fun r h' => Keeps h.size h h' ∧ r = I 0 := by
  have hlen := fun h => hs.len h
  have hln : (l.length : Int) = (n : Int) := by have := ho.1; omega
  refine WF.body' (A := A40) rfl rfl rfl fun R r => ?_
  simp only [wxs, ↓reduceIte, Nat.reduceEqDiff, Nat.reduceAdd, Nat.reduceLT, reduceCtorEq, Int.reduceLE, Int.reduceLT, Int.reduceEq, Int.reduceNeg, Nat.reduceLeDiff, Nat.reduceBEq, A40, hlen, hln]
  refine (c_in _ _ _ _).mono ?_
  rintro v2 h2 ⟨rfl, rfl⟩
  have h17 : (1 : Int) ≤ (n : Int) ∧ (n : Int) ≤ 7 := by omega
  simp only [wxs, ↓reduceIte, Nat.reduceEqDiff, Nat.reduceAdd, Nat.reduceLT, reduceCtorEq, Int.reduceLE, Int.reduceLT, Int.reduceEq, Int.reduceNeg, Nat.reduceLeDiff, Nat.reduceBEq, h17, and_self, hlen, hln]
  refine (c_ordered hs hm n (by omega) ho).mono ?_
  rintro v3 h3 ⟨hk, rfl⟩
  simp only [wxs, ↓reduceIte, Nat.reduceEqDiff, Nat.reduceAdd, Nat.reduceLT, reduceCtorEq, Int.reduceLE, Int.reduceLT, Int.reduceEq, Int.reduceNeg, Nat.reduceLeDiff, Nat.reduceBEq]
  exact r _ _ ⟨hk, rfl⟩

theorem c_greatest {h : AH} {m : Nat} {v : AV} {l : List Int} (hs : Ints m h v l) (hn : l.length < 4611686018427387904) :
    WF FT NT 87 [v] h fun r h' => h' = h ∧ r = I (l.foldl max 0) := by
  have hlen := fun h => hs.len h
  refine WF.body' (A := A87) rfl rfl rfl fun R r => ?_
  simp only [wxs, ↓reduceIte, Nat.reduceEqDiff, Nat.reduceAdd, Nat.reduceLT, reduceCtorEq, Int.reduceLE, Int.reduceLT, Int.reduceEq, Int.reduceNeg, Nat.reduceLeDiff, Nat.reduceBEq, A87, hlen]
  refine WS.range (cnt := 8) (lim := 7) (S := Unit) l.length (fun i _ => [(6, v), (3, I ((l.take i).foldl max 0))]) (fun i _ h' => h' = h) (fun a h' => h' = h ∧ a.at 3 = I (l.foldl max 0)) () (by decide) (by omega) (fun _ _ => rfl)
    (by simp only [wxs, ↓reduceIte, Nat.reduceEqDiff, Nat.reduceAdd, Nat.reduceLT, reduceCtorEq, Int.reduceLE, Int.reduceLT, Int.reduceEq, Int.reduceNeg, Nat.reduceLeDiff, Nat.reduceBEq]) (by simp only [wxs, ↓reduceIte, Nat.reduceEqDiff, Nat.reduceAdd, Nat.reduceLT, reduceCtorEq, Int.reduceLE, Int.reduceLT, Int.reduceEq, Int.reduceNeg, Nat.reduceLeDiff, Nat.reduceBEq]) (by simp only [wxs, ↓reduceIte, Nat.reduceEqDiff, Nat.reduceAdd, Nat.reduceLT, reduceCtorEq, Int.reduceLE, Int.reduceLT, Int.reduceEq, Int.reduceNeg, Nat.reduceLeDiff, Nat.reduceBEq, List.take_zero, List.foldl_nil]) rfl ?_ ?_ ?_
  · rintro Q i _ a h' hi qn qc qx qj hc hl he rfl
    simp only [env_cons, env_nil, and_true] at he
    obtain ⟨h6, h3⟩ := he
    obtain ⟨q, hix, hld⟩ := hs.ix (x := (i : Int)) (i := i) rfl hi
    have hget : l.getD i 0 = l[i] := by simp [hi]
    simp only [wxs, ↓reduceIte, Nat.reduceEqDiff, Nat.reduceAdd, Nat.reduceLT, reduceCtorEq, Int.reduceLE, Int.reduceLT, Int.reduceEq, Int.reduceNeg, Nat.reduceLeDiff, Nat.reduceBEq, h6, h3, hc, hix, hld]
    refine qn () _ _ (by simp only [wxs, ↓reduceIte, Nat.reduceEqDiff, Nat.reduceAdd, Nat.reduceLT, reduceCtorEq, Int.reduceLE, Int.reduceLT, Int.reduceEq, Int.reduceNeg, Nat.reduceLeDiff, Nat.reduceBEq, hc]) (by simp only [wxs, ↓reduceIte, Nat.reduceEqDiff, Nat.reduceAdd, Nat.reduceLT, reduceCtorEq, Int.reduceLE, Int.reduceLT, Int.reduceEq, Int.reduceNeg, Nat.reduceLeDiff, Nat.reduceBEq, hl]) ?_ rfl
    rw [take_snoc l i hi, List.foldl_append, ← hget]
    simp only [wxs, ↓reduceIte, Nat.reduceEqDiff, Nat.reduceAdd, Nat.reduceLT, reduceCtorEq, Int.reduceLE, Int.reduceLT, Int.reduceEq, Int.reduceNeg, Nat.reduceLeDiff, Nat.reduceBEq, h6, h3, List.foldl_cons, List.foldl_nil]
  · rintro _ a h' he rfl
    simp only [env_cons, env_nil, and_true] at he
    exact ⟨rfl, by rw [he.2, List.take_of_length_le (Nat.le_refl _)]⟩
  · rintro a h' ⟨rfl, h3⟩
    simp only [wxs, ↓reduceIte, Nat.reduceEqDiff, Nat.reduceAdd, Nat.reduceLT, reduceCtorEq, Int.reduceLE, Int.reduceLT, Int.reduceEq, Int.reduceNeg, Nat.reduceLeDiff, Nat.reduceBEq, h3]
    exact r _ _ ⟨rfl, rfl⟩

end AL
set_option linter.unusedVariables false
set_option linter.unusedSimpArgs false
namespace AL
open Go

/-- one round of the inner loop -/
def riseIn (x : Int) (acc : Int) (p : Int × Int) : Int := if x < p.1 then max (max 0 acc) p.2 else acc
def risesS : List Int → List Int
  | [] => []
  | x :: xs => ((List.zip xs (risesS xs)).foldl (riseIn x) 0 + 1) :: risesS xs

theorem risesS_length : ∀ l, (risesS l).length = l.length
  | [] => rfl
  | x :: xs => by simp [risesS, risesS_length xs]
theorem riseIn_bound (x : Int) (n : Int) : ∀ (l : List (Int × Int)) (a : Int), 0 ≤ a → a ≤ n → (∀ p ∈ l, 0 ≤ p.2 ∧ p.2 ≤ n) → 0 ≤ l.foldl (riseIn x) a ∧ l.foldl (riseIn x) a ≤ n
  | [], a, h0, h1, _ => ⟨h0, h1⟩
  | p :: l, a, h0, h1, hp => by
    have h2 := hp p (by simp)
    refine riseIn_bound x n l _ ?_ ?_ (fun q hq => hp q (by simp [hq])) <;> (simp only [riseIn]; split <;> omega)
theorem risesS_bound : ∀ l : List Int, ∀ r ∈ risesS l, 1 ≤ r ∧ r ≤ l.length
  | [], r, h => by simp [risesS] at h
  | x :: xs, r, h => by
    have ih := risesS_bound xs
    rcases List.mem_cons.1 h with rfl | h
    · have := riseIn_bound x xs.length (List.zip xs (risesS xs)) 0 (by omega) (by omega) (fun p hp => by
        have := ih p.2 (List.of_mem_zip hp).2; omega)
      simp only [List.length_cons]; omega
    · have := ih r h; simp only [List.length_cons]; omega

theorem drop_risesS : ∀ (l : List Int) (k : Nat), (risesS l).drop k = risesS (l.drop k)
  | l, 0 => by simp
  | [], k + 1 => by simp [risesS]
  | x :: xs, k + 1 => by simp only [risesS, List.drop_succ_cons]; exact drop_risesS xs k

theorem c_rises {h : AH} {m : Nat} {v : AV} {l : List Int} (hs : Ints m h v l) (hm : m ≤ h.size) (hn : l.length ≤ 1000) :
    WF FT NT 86 [v] h fun r h' => Keeps h.size h h' ∧ Own h.size h' 1 r l.length ((risesS l).map I) := by
  have hlen := fun h => hs.len h
  refine WF.body' (A := A86) rfl rfl rfl fun R r => ?_
  have hmk := mk_1 (h := h) (.int .i64 0) 8 l.length l.length l.length rfl rfl (by simp only [maxRoom]; omega) (by simp only [maxRoom]; omega)
  have hw0 : wrapA .i64 ((l.length : Int) - 1) = (l.length : Int) - 1 := wr (by omega) (by omega)
  simp only [wxs, ↓reduceIte, Nat.reduceEqDiff, Nat.reduceAdd, Nat.reduceLT, reduceCtorEq, Int.reduceLE, Int.reduceLT, Int.reduceEq, Int.reduceNeg, Nat.reduceLeDiff, Nat.reduceBEq, A86, hlen, hmk, hw0]
  have hV : ∃ V, V = AV.slice (some (h.size, 0)) l.length (.known l.length) := ⟨_, rfl⟩
  obtain ⟨V, hV⟩ := hV
  have hVs : V.sid = some h.size := by rw [hV]; rfl
  rw [← hV]
  refine WS.loop (S := Nat) (fun k => [(0, v), (3, V), (4, I ((k : Int) - 1))])
    (fun k h' => k ≤ l.length ∧ Keeps h.size h h' ∧ Own h.size h' 1 V l.length ((List.replicate k 0 ++ risesS (l.drop k)).map I)) (fun k => k)
    (fun a h' => a.at 3 = V ∧ Keeps h.size h h' ∧ Own h.size h' 1 V l.length ((risesS l).map I)) l.length (by simp only [wxs, ↓reduceIte, Nat.reduceEqDiff, Nat.reduceAdd, Nat.reduceLT, reduceCtorEq, Int.reduceLE, Int.reduceLT, Int.reduceEq, Int.reduceNeg, Nat.reduceLeDiff, Nat.reduceBEq]) ?_ ?_ ?_
  · refine ⟨Nat.le_refl _, Keeps.self.push _, ?_⟩
    have := Own.new (n0 := h.size) h (List.replicate l.length (.int .i64 0)) 1 l.length (Nat.le_refl _) (by simp)
    rw [hV]
    simpa [risesS] using this
  · rintro Q k a h' qn qx qj he ⟨hkl, hk, ho⟩
    simp only [env_cons, env_nil, and_true] at he
    obtain ⟨h0, h3, h4⟩ := he
    by_cases hk0 : k = 0
    · subst hk0
      have hneg : ¬ ((0 : Int) ≤ ((0 : Nat) : Int) - 1) := by omega
      simp only [wxs, ↓reduceIte, Nat.reduceEqDiff, Nat.reduceAdd, Nat.reduceLT, reduceCtorEq, Int.reduceLE, Int.reduceLT, Int.reduceEq, Int.reduceNeg, Nat.reduceLeDiff, Nat.reduceBEq, A86L0, h0, h3, h4, hneg]
      exact qx _ _ ⟨by simp only [wxs, ↓reduceIte, Nat.reduceEqDiff, Nat.reduceAdd, Nat.reduceLT, reduceCtorEq, Int.reduceLE, Int.reduceLT, Int.reduceEq, Int.reduceNeg, Nat.reduceLeDiff, Nat.reduceBEq, h3], hk, by simpa using ho⟩
    · obtain ⟨p, rfl⟩ : ∃ p, k = p + 1 := ⟨k - 1, by omega⟩
      have hp0 : (0 : Int) ≤ ((p + 1 : Nat) : Int) - 1 := by omega
      have hpe : ((p + 1 : Nat) : Int) - 1 = (p : Int) := by omega
      rw [hpe] at h4
      have hw1 : wrapA .i64 ((p : Int) + 1) = ((p + 1 : Nat) : Int) := by rw [wr (by omega) (by omega)]; omega
      have hpl : p < l.length := by omega
      simp only [wxs, ↓reduceIte, Nat.reduceEqDiff, Nat.reduceAdd, Nat.reduceLT, reduceCtorEq, Int.reduceLE, Int.reduceLT, Int.reduceEq, Int.reduceNeg, Nat.reduceLeDiff, Nat.reduceBEq, A86L0, h0, h3, h4, hp0, hpe, hw1]
      refine WS.loop (S := Nat × Int) (fun s => [(0, v), (3, V), (4, I (p : Int)), (5, I (s.1 : Int))])
        (fun s h' => p + 1 ≤ s.1 ∧ s.1 ≤ l.length ∧ Keeps h.size h h' ∧ s.2 = ((List.zip (l.drop (p + 1)) (risesS (l.drop (p + 1)))).take (s.1 - (p + 1))).foldl (riseIn (l.getD p 0)) 0 ∧
          Own h.size h' 1 V l.length ((List.replicate p 0 ++ s.2 :: risesS (l.drop (p + 1))).map I)) (fun s => l.length - s.1)
        (fun a h' => Env a [(0, v), (3, V), (4, I (p : Int))] ∧ Keeps h.size h h' ∧ Own h.size h' 1 V l.length ((List.replicate p 0 ++ ((List.zip (l.drop (p + 1)) (risesS (l.drop (p + 1)))).foldl (riseIn (l.getD p 0)) 0) :: risesS (l.drop (p + 1))).map I))
        (p + 1, 0) (by simp only [wxs, ↓reduceIte, Nat.reduceEqDiff, Nat.reduceAdd, Nat.reduceLT, reduceCtorEq, Int.reduceLE, Int.reduceLT, Int.reduceEq, Int.reduceNeg, Nat.reduceLeDiff, Nat.reduceBEq, h0, h3, h4]) ⟨Nat.le_refl _, by omega, hk, by simp, by rw [List.replicate_succ', List.append_assoc] at ho; exact ho⟩ ?_ ?_
      · rintro Q2 ⟨q, acc⟩ a2 h2 qn2 qx2 qj2 he2 ⟨hq1, hq2, hk2, hacc, ho2⟩
        simp only [env_cons, env_nil, and_true] at he2 hq1 hq2 hacc ho2
        obtain ⟨g0, g3, g4, g5⟩ := he2
        by_cases hql : q < l.length
        · have hql' : (q : Int) < (l.length : Int) := by omega
          obtain ⟨x1, hix1, hld1⟩ := Ints.ix (hs.keep (hk2.lower hm)) (x := (q : Int)) (i := q) rfl hql
          obtain ⟨x2, hix2, hld2⟩ := Ints.ix (hs.keep (hk2.lower hm)) (x := (p : Int)) (i := p) rfl hpl
          have hw2 : wrapA .i64 ((q : Int) + 1) = ((q + 1 : Nat) : Int) := by rw [wr (by omega) (by omega)]; omega
          have hLlen : (List.replicate p 0 ++ acc :: risesS (l.drop (p + 1))).length = l.length := by
            simp only [List.length_append, List.length_replicate, List.length_cons, risesS_length, List.length_drop]; omega
          have hsl2 : Ints h2.size h2 V (List.replicate p 0 ++ acc :: risesS (l.drop (p + 1))) := by rw [Ints, hLlen]; exact ho2.sl
          have hzl : q - (p + 1) < (List.zip (l.drop (p + 1)) (risesS (l.drop (p + 1)))).length := by
            simp only [List.length_zip, risesS_length, List.length_drop, Nat.min_self]; omega
          have hge : (List.zip (l.drop (p + 1)) (risesS (l.drop (p + 1))))[q - (p + 1)] = (l.getD q 0, (List.replicate p 0 ++ acc :: risesS (l.drop (p + 1))).getD q 0) := by
            have e1 : p + 1 + (q - (p + 1)) = q := by omega
            have hqL : q < (List.replicate p 0 ++ acc :: risesS (l.drop (p + 1))).length := by omega
            have e2 : (List.replicate p 0 ++ acc :: risesS (l.drop (p + 1)))[q] = (risesS (l.drop (p + 1)))[q - (p + 1)]'(by rw [risesS_length, List.length_drop]; omega) := by
              rw [List.getElem_append_right (by simp; omega)]
              simp only [List.length_replicate]
              have : q - p = (q - (p + 1)) + 1 := by omega
              simp only [this, List.getElem_cons_succ]
            simp only [List.getElem_zip, List.getElem_drop, e1, List.getD_eq_getElem?_getD, List.getElem?_eq_getElem hql, List.getElem?_eq_getElem hqL, Option.getD_some, e2]
          have hstep : ((List.zip (l.drop (p + 1)) (risesS (l.drop (p + 1)))).take (q + 1 - (p + 1))).foldl (riseIn (l.getD p 0)) 0 = riseIn (l.getD p 0) acc (l.getD q 0, (List.replicate p 0 ++ acc :: risesS (l.drop (p + 1))).getD q 0) := by
            rw [show q + 1 - (p + 1) = q - (p + 1) + 1 by omega, take_snoc _ _ hzl, List.foldl_append, ← hacc, hge]; rfl
          by_cases hlt : l.getD p 0 < l.getD q 0
          · obtain ⟨x3, hix3, hld3⟩ := hsl2.ix (x := (p : Int)) (i := p) rfl (by omega)
            obtain ⟨x4, hix4, hld4⟩ := hsl2.ix (x := (q : Int)) (i := q) rfl (by omega)
            have hlp : (List.replicate p 0 ++ acc :: risesS (l.drop (p + 1))).getD p 0 = acc := by simp [List.getD_eq_getElem?_getD]
            rw [hlp] at hld3
            simp only [wxs, ↓reduceIte, Nat.reduceEqDiff, Nat.reduceAdd, Nat.reduceLT, reduceCtorEq, Int.reduceLE, Int.reduceLT, Int.reduceEq, Int.reduceNeg, Nat.reduceLeDiff, Nat.reduceBEq, A86L1, g0, g3, g4, g5, hlen, hql', hix1, hld1, hix2, hld2, hlt, hix3, hld3, hix4, hld4]
            have hk3 : ∀ o, Keeps h2.size h2 (h2.push o) := fun o => Keeps.self.push o
            have hgl : Ints (h2.size + 1) (h2.push (.cells [I acc, I ((List.replicate p 0 ++ acc :: risesS (l.drop (p + 1))).getD q 0)])) (.slice (some (h2.size, 0)) 2 (.known 2)) [acc, (List.replicate p 0 ++ acc :: risesS (l.drop (p + 1))).getD q 0] :=
              (Own.new (n0 := 0) h2 _ 1 2 (Nat.zero_le _) rfl).sl
            refine (c_greatest hgl (by simp)).mono ?_
            rintro v4 h4' ⟨rfl, rfl⟩
            have ho3 := ho2.keep (hk3 (.cells [I acc, I ((List.replicate p 0 ++ acc :: risesS (l.drop (p + 1))).getD q 0)]))
            obtain ⟨x5, h5, hix5, hst5, ho5, hsz5, hold5⟩ := ho3.put (x := (p : Int)) (i := p) rfl hpl (w := I (max (max 0 acc) ((List.replicate p 0 ++ acc :: risesS (l.drop (p + 1))).getD q 0))) (one_int _ _)
            have hx53 : x5 = x3 := by
              have e1 := hix3 h; have e2 := hix5 h
              rw [e1] at e2; simpa using e2.symm
            subst hx53
            simp only [wxs, ↓reduceIte, Nat.reduceEqDiff, Nat.reduceAdd, Nat.reduceLT, reduceCtorEq, Int.reduceLE, Int.reduceLT, Int.reduceEq, Int.reduceNeg, Nat.reduceLeDiff, Nat.reduceBEq, g0, g3, g4, g5, List.foldl_cons, List.foldl_nil, hix5, hst5, hw2]
            refine qn2 (q + 1, max (max 0 acc) ((List.replicate p 0 ++ acc :: risesS (l.drop (p + 1))).getD q 0)) _ _ (by simp only; omega) (by simp only [wxs, ↓reduceIte, Nat.reduceEqDiff, Nat.reduceAdd, Nat.reduceLT, reduceCtorEq, Int.reduceLE, Int.reduceLT, Int.reduceEq, Int.reduceNeg, Nat.reduceLeDiff, Nat.reduceBEq, g0, g3, g4, g5]) ⟨by simp only; omega, by simp only; omega, ?_, ?_, ?_⟩
            · refine hk2.trans (m := h.size) ⟨hk2.2.1, ?_, fun i hi => ?_⟩ (Nat.le_refl _)
              · rw [hsz5]; exact Nat.le_succ _
              · rw [hold5 i (by rw [hVs]; intro e; cases e; omega), at_push_old _ (by have := hk2.1; have := hk2.2.1; omega)]
            · simp only
              rw [hstep, riseIn, if_pos hlt]
            · simp only
              have := ho5
              rw [show (List.replicate p (0 : Int) ++ acc :: risesS (l.drop (p + 1))).map I = List.replicate p (I 0) ++ I acc :: (risesS (l.drop (p + 1))).map I by simp] at this
              rw [List.set_append_right _ _ (by simp)] at this
              simpa using this
          · simp only [wxs, ↓reduceIte, Nat.reduceEqDiff, Nat.reduceAdd, Nat.reduceLT, reduceCtorEq, Int.reduceLE, Int.reduceLT, Int.reduceEq, Int.reduceNeg, Nat.reduceLeDiff, Nat.reduceBEq, A86L1, g0, g3, g4, g5, hlen, hql', hix1, hld1, hix2, hld2, hlt, hw2]
            refine qn2 (q + 1, acc) _ _ (by simp only; omega) (by simp only [wxs, ↓reduceIte, Nat.reduceEqDiff, Nat.reduceAdd, Nat.reduceLT, reduceCtorEq, Int.reduceLE, Int.reduceLT, Int.reduceEq, Int.reduceNeg, Nat.reduceLeDiff, Nat.reduceBEq, g0, g3, g4, g5]) ⟨by simp only; omega, by simp only; omega, hk2, ?_, ho2⟩
            simp only
            rw [hstep, riseIn, if_neg hlt]
        · have hql' : ¬ ((q : Int) < (l.length : Int)) := by omega
          have hqe : q = l.length := by omega
          simp only [wxs, ↓reduceIte, Nat.reduceEqDiff, Nat.reduceAdd, Nat.reduceLT, reduceCtorEq, Int.reduceLE, Int.reduceLT, Int.reduceEq, Int.reduceNeg, Nat.reduceLeDiff, Nat.reduceBEq, A86L1, g0, g3, g4, g5, hlen, hql']
          refine qx2 _ _ ⟨by simp only [wxs, ↓reduceIte, Nat.reduceEqDiff, Nat.reduceAdd, Nat.reduceLT, reduceCtorEq, Int.reduceLE, Int.reduceLT, Int.reduceEq, Int.reduceNeg, Nat.reduceLeDiff, Nat.reduceBEq, g0, g3, g4, g5], hk2, ?_⟩
          rw [List.take_of_length_le (by simp only [List.length_zip, risesS_length, List.length_drop, Nat.min_self]; omega)] at hacc
          rw [← hacc]; exact ho2
      · rintro a2 h2 ⟨he2, hk2, ho2⟩
        simp only [env_cons, env_nil, and_true] at he2
        obtain ⟨g0, g3, g4⟩ := he2
        have hdrop : l.drop p = l.getD p 0 :: l.drop (p + 1) := by
          rw [List.drop_eq_getElem_cons hpl]; simp [hpl]
        have hrs : risesS (l.drop p) = (((List.zip (l.drop (p + 1)) (risesS (l.drop (p + 1)))).foldl (riseIn (l.getD p 0)) 0) + 1) :: risesS (l.drop (p + 1)) := by rw [hdrop, risesS]
        obtain ⟨f, hf⟩ : ∃ f, f = ((List.zip (l.drop (p + 1)) (risesS (l.drop (p + 1)))).foldl (riseIn (l.getD p 0)) 0) := ⟨_, rfl⟩
        rw [← hf] at ho2 hrs
        have hfb : 1 ≤ f + 1 ∧ f + 1 ≤ 1000 := by
          have := risesS_bound (l.drop p) (f + 1) (by rw [hrs]; exact List.mem_cons_self)
          rw [List.length_drop] at this
          omega
        have hLlen : (List.replicate p 0 ++ f :: risesS (l.drop (p + 1))).length = l.length := by
          simp only [List.length_append, List.length_replicate, List.length_cons, risesS_length, List.length_drop]; omega
        have hsl2 : Ints h2.size h2 V (List.replicate p 0 ++ f :: risesS (l.drop (p + 1))) := by rw [Ints, hLlen]; exact ho2.sl
        obtain ⟨x1, hix1, hld1⟩ := hsl2.ix (x := (p : Int)) (i := p) rfl (by omega)
        have hlp : (List.replicate p 0 ++ f :: risesS (l.drop (p + 1))).getD p 0 = f := by simp [List.getD_eq_getElem?_getD]
        rw [hlp] at hld1
        have hw2 : wrapA .i64 (f + 1) = f + 1 := wr (by omega) (by omega)
        obtain ⟨x2, h3', hix2, hst2, ho3, hsz3, hold3⟩ := ho2.put (x := (p : Int)) (i := p) rfl hpl (w := I (f + 1)) (one_int _ _)
        have hx21 : x2 = x1 := by
          have e1 := hix1 h; have e2 := hix2 h
          rw [e1] at e2; simpa using e2.symm
        subst hx21
        have hw3 : wrapA .i64 ((p : Int) - 1) = (p : Int) - 1 := wr (by omega) (by omega)
        simp only [wxs, ↓reduceIte, Nat.reduceEqDiff, Nat.reduceAdd, Nat.reduceLT, reduceCtorEq, Int.reduceLE, Int.reduceLT, Int.reduceEq, Int.reduceNeg, Nat.reduceLeDiff, Nat.reduceBEq, g0, g3, g4, hix1, hld1, hw2, hst2, hw3]
        refine qn p _ _ (by omega) (by simp only [wxs, ↓reduceIte, Nat.reduceEqDiff, Nat.reduceAdd, Nat.reduceLT, reduceCtorEq, Int.reduceLE, Int.reduceLT, Int.reduceEq, Int.reduceNeg, Nat.reduceLeDiff, Nat.reduceBEq, g0, g3, g4]) ⟨by omega, ?_, ?_⟩
        · refine hk2.trans (m := h.size) ⟨hk2.2.1, by rw [hsz3]; exact Nat.le_refl _, fun i hi => ?_⟩ (Nat.le_refl _)
          rw [hold3 i (by rw [hVs]; intro e; cases e; omega)]
        · rw [hrs]
          have := ho3
          rw [show (List.replicate p (0 : Int) ++ f :: risesS (l.drop (p + 1))).map I = List.replicate p (I 0) ++ I f :: (risesS (l.drop (p + 1))).map I by simp] at this
          rw [List.set_append_right _ _ (by simp)] at this
          simpa using this
  · rintro a h' ⟨h3, hk, ho⟩
    simp only [wxs, ↓reduceIte, Nat.reduceEqDiff, Nat.reduceAdd, Nat.reduceLT, reduceCtorEq, Int.reduceLE, Int.reduceLT, Int.reduceEq, Int.reduceNeg, Nat.reduceLeDiff, Nat.reduceBEq, h3]
    exact r _ _ ⟨hk, ho⟩
end AL
set_option linter.unusedVariables false
set_option linter.unusedSimpArgs false
namespace AL
open Go

def riseOk (l r : List Int) (left : Int) (out : List Nat) (p : Nat) : Bool :=
  decide (r.getD p 0 = left) && (decide (out.length = 0) || (decide (out.getLastD 0 < p) && decide (l.getD (out.getLastD 0) 0 < l.getD p 0)))
def riseStep (l r : List Int) (left : Int) (out : List Nat) : List Nat :=
  match (List.range r.length).find? (riseOk l r left out) with
  | some p => out ++ [p]
  | none => out
def riseLoop (l r : List Int) : Nat → List Nat → List Nat
  | 0, out => out
  | k + 1, out => riseLoop l r k (riseStep l r ((k : Int) + 1) out)
def riseS (l : List Int) : List Nat := riseLoop l (risesS l) ((risesS l).foldl max 0).toNat []

abbrev Nats (m : Nat) (h : AH) (v : AV) (l : List Nat) : Prop := Sl m h 1 v l.length (l.map fun x : Nat => I x)
theorem Nats.ix {m : Nat} {h : AH} {v : AV} {l : List Nat} (hs : Nats m h v l) {x : Int} {i : Nat} (hx : x = (i : Int)) (hi : i < l.length) : ∃ q, (∀ h1, v_ixs 1 v (.int .i64 x) h1 = some (.ptr (some q), h1)) ∧ v_load none (.ptr (some q)) h = some (I (l.getD i 0 : Nat), h) := by
  refine Sl.ix hs hx ?_
  rw [List.getElem?_map, List.getElem?_eq_getElem hi]; simp [hi]

theorem foldl_max_bound (n : Int) : ∀ (l : List Int) (a : Int), 0 ≤ a → a ≤ n → (∀ x ∈ l, x ≤ n) → 0 ≤ l.foldl max a ∧ l.foldl max a ≤ n
  | [], a, h0, h1, _ => ⟨h0, h1⟩
  | x :: l, a, h0, h1, hx => by
    have := hx x (by simp)
    exact foldl_max_bound n l (max a x) (by omega) (by omega) fun y hy => hx y (by simp [hy])

theorem riseStep_mem (l r : List Int) (left : Int) (out : List Nat) (n : Nat) (hr : r.length = n) (ho : ∀ p ∈ out, p < n) : ∀ p ∈ riseStep l r left out, p < n := by
  intro p hp
  unfold riseStep at hp
  split at hp
  · rename_i q hq
    rcases List.mem_append.1 hp with hp | hp
    · exact ho p hp
    · rw [List.mem_singleton.1 hp]
      have := List.mem_of_find?_eq_some hq
      rw [List.mem_range] at this; omega
  · exact ho p hp
theorem riseStep_len (l r : List Int) (left : Int) (out : List Nat) : (riseStep l r left out).length ≤ out.length + 1 := by
  unfold riseStep; split <;> simp

theorem c_rise {h : AH} {m : Nat} {v : AV} {l : List Int} (hs : Ints m h v l) (hm : m ≤ h.size) (hn : l.length ≤ 1000) :
    WF FT NT 41 [v] h fun r h' => Keeps h.size h h' ∧ Own h.size h' 1 r (riseS l).length ((riseS l).map fun x : Nat => I x) := by
  refine WF.body' (A := A41) rfl rfl rfl fun R r => ?_
  simp only [wxs, ↓reduceIte, Nat.reduceEqDiff, Nat.reduceAdd, Nat.reduceLT, reduceCtorEq, Int.reduceLE, Int.reduceLT, Int.reduceEq, Int.reduceNeg, Nat.reduceLeDiff, Nat.reduceBEq, A41]
  refine (c_rises hs hm hn).mono ?_
  rintro rv h1a ⟨hk1, hor⟩
  have hrl : (risesS l).length = l.length := risesS_length l
  have hr : Ints h1a.size h1a rv (risesS l) := by rw [Ints, hrl]; exact hor.sl
  simp only [wxs, ↓reduceIte, Nat.reduceEqDiff, Nat.reduceAdd, Nat.reduceLT, reduceCtorEq, Int.reduceLE, Int.reduceLT, Int.reduceEq, Int.reduceNeg, Nat.reduceLeDiff, Nat.reduceBEq]
  refine (c_greatest hr (by omega)).mono ?_
  rintro gv h1 ⟨rfl, rfl⟩
  obtain ⟨g, hg⟩ : ∃ g : Nat, (risesS l).foldl max 0 = (g : Int) ∧ g ≤ 1000 := by
    have := foldl_max_bound 1000 (risesS l) 0 (by omega) (by omega) (fun x hx => by have := risesS_bound l x hx; omega)
    exact ⟨((risesS l).foldl max 0).toNat, by omega, by omega⟩
  have hriseS : riseS l = riseLoop l (risesS l) g [] := by unfold riseS; rw [hg.1, Int.toNat_natCast]
  rw [hg.1]
  simp only [wxs, ↓reduceIte, Nat.reduceEqDiff, Nat.reduceAdd, Nat.reduceLT, reduceCtorEq, Int.reduceLE, Int.reduceLT, Int.reduceEq, Int.reduceNeg, Nat.reduceLeDiff, Nat.reduceBEq]
  have hrlen := fun h => hr.len h
  refine WS.loop (S := Nat × List Nat × AV) (fun s => [(0, v), (3, rv), (4, s.2.2), (5, I (s.1 : Int))])
    (fun s h' => s.1 ≤ 1000 ∧ Keeps h1.size h1 h' ∧ Own h1.size h' 1 s.2.2 s.2.1.length (s.2.1.map fun x : Nat => I x) ∧ riseLoop l (risesS l) s.1 s.2.1 = riseS l ∧ (∀ p ∈ s.2.1, p < l.length) ∧ s.2.1.length + s.1 ≤ 2000) (fun s => s.1)
    (fun a h' => ∃ ov, a.at 4 = ov ∧ Keeps h1.size h1 h' ∧ Own h1.size h' 1 ov (riseS l).length ((riseS l).map fun x : Nat => I x)) (g, [], .slice none 0 (.known 0)) (by simp only [wxs, ↓reduceIte, Nat.reduceEqDiff, Nat.reduceAdd, Nat.reduceLT, reduceCtorEq, Int.reduceLE, Int.reduceLT, Int.reduceEq, Int.reduceNeg, Nat.reduceLeDiff, Nat.reduceBEq]) ?_ ?_ ?_
  · exact ⟨hg.2, .self, Own.nil _ _ _, hriseS.symm, by simp, by simp only [List.length_nil]; omega⟩
  · rintro Q ⟨k, out, ov⟩ a h' qn qx qj he ⟨hk1000, hk, ho, hloop, hmem, hlen2⟩
    simp only [env_cons, env_nil, and_true] at he hk1000 ho hloop hmem hlen2
    obtain ⟨h0, h3, h4, h5⟩ := he
    cases k with
    | zero =>
      simp only [wxs, ↓reduceIte, Nat.reduceEqDiff, Nat.reduceAdd, Nat.reduceLT, reduceCtorEq, Int.reduceLE, Int.reduceLT, Int.reduceEq, Int.reduceNeg, Nat.reduceLeDiff, Nat.reduceBEq, A41L0, h0, h3, h4, h5, Int.natCast_zero, Int.lt_irrefl]
      refine qx _ _ ⟨ov, by simp only [wxs, ↓reduceIte, Nat.reduceEqDiff, Nat.reduceAdd, Nat.reduceLT, reduceCtorEq, Int.reduceLE, Int.reduceLT, Int.reduceEq, Int.reduceNeg, Nat.reduceLeDiff, Nat.reduceBEq, h4], hk, ?_⟩
      rw [riseLoop] at hloop; rw [← hloop]; exact ho
    | succ k =>
      have hpos : (0 : Int) < ((k + 1 : Nat) : Int) := by omega
      simp only [wxs, ↓reduceIte, Nat.reduceEqDiff, Nat.reduceAdd, Nat.reduceLT, reduceCtorEq, Int.reduceLE, Int.reduceLT, Int.reduceEq, Int.reduceNeg, Nat.reduceLeDiff, Nat.reduceBEq, A41L0, h0, h3, h4, h5, hpos, hrlen]
      refine WS.range (cnt := 18) (lim := 17) (S := Unit) (risesS l).length (fun _ _ => [(16, rv), (0, v), (3, rv), (4, ov), (5, I ((k + 1 : Nat) : Int))])
        (fun i _ h2 => Keeps h1.size h1 h2 ∧ Own h1.size h2 1 ov out.length (out.map fun x : Nat => I x) ∧ ∀ p, p < i → riseOk l (risesS l) ((k + 1 : Nat) : Int) out p = false)
        (fun a h2 => ∃ ov', Env a [(0, v), (3, rv), (4, ov'), (5, I ((k + 1 : Nat) : Int))] ∧ Keeps h1.size h1 h2 ∧ Own h1.size h2 1 ov' (riseStep l (risesS l) ((k + 1 : Nat) : Int) out).length ((riseStep l (risesS l) ((k + 1 : Nat) : Int) out).map fun x : Nat => I x))
        () (by decide) (by omega) (fun _ _ => rfl) (by simp only [wxs, ↓reduceIte, Nat.reduceEqDiff, Nat.reduceAdd, Nat.reduceLT, reduceCtorEq, Int.reduceLE, Int.reduceLT, Int.reduceEq, Int.reduceNeg, Nat.reduceLeDiff, Nat.reduceBEq]) (by simp only [wxs, ↓reduceIte, Nat.reduceEqDiff, Nat.reduceAdd, Nat.reduceLT, reduceCtorEq, Int.reduceLE, Int.reduceLT, Int.reduceEq, Int.reduceNeg, Nat.reduceLeDiff, Nat.reduceBEq]) (by simp only [wxs, ↓reduceIte, Nat.reduceEqDiff, Nat.reduceAdd, Nat.reduceLT, reduceCtorEq, Int.reduceLE, Int.reduceLT, Int.reduceEq, Int.reduceNeg, Nat.reduceLeDiff, Nat.reduceBEq, h0, h3, h4, h5]) ⟨hk, ho, fun p hp => by omega⟩ ?_ ?_ ?_
      · rintro Q2 i _ a2 h2 hi qn2 qc2 qx2 qj2 hc2 hl2 he2 ⟨hk2, ho2, hno⟩
        simp only [env_cons, env_nil, and_true] at he2
        obtain ⟨g16, g0, g3, g4, g5⟩ := he2
        obtain ⟨x1, hix1, hld1⟩ := Ints.ix (hr.keep hk2) (x := (i : Int)) (i := i) rfl hi
        have hkv : Keeps m h h2 := (hk1.trans hk2 hk1.2.1).lower hm
        have fin : ∀ (b : Bool), riseOk l (risesS l) ((k + 1 : Nat) : Int) out i = b → b = false → ∀ p, p < i + 1 → riseOk l (risesS l) ((k + 1 : Nat) : Int) out p = false := by
          intro b hb hf p hp
          by_cases hpi : p = i
          · rw [hpi, hb, hf]
          · exact hno p (by omega)
        have found : riseOk l (risesS l) ((k + 1 : Nat) : Int) out i = true → riseStep l (risesS l) ((k + 1 : Nat) : Int) out = out ++ [i] := by
          intro hok
          unfold riseStep
          have : (List.range (risesS l).length).find? (riseOk l (risesS l) ((k + 1 : Nat) : Int) out) = some i := by
            rw [List.find?_range_eq_some]
            exact ⟨hok, List.mem_range.2 hi, fun j hj => by rw [hno j hj]; rfl⟩
          rw [this]
        have hkp : Keeps h2.size h2 (h2.push (.cells [I (i : Int)])) := Keeps.self.push _
        obtain ⟨ov', h3', happ, ho3, hsz3, hold3, _⟩ := (ho2.keep hkp).app (b := 8) (by have := hk2.2.1; have := hkp.2.1; omega) (Nat.lt_succ_self 0) (elems_new h2 [I (i : Int)] 1 1 (.known 1) rfl) rfl (by simp only [wxs, ↓reduceIte, Nat.reduceEqDiff, Nat.reduceAdd, Nat.reduceLT, reduceCtorEq, Int.reduceLE, Int.reduceLT, Int.reduceEq, Int.reduceNeg, Nat.reduceLeDiff, Nat.reduceBEq, all_nil, all_cons]) (by simp only [maxRoom]; omega)
        have fin2 : ∀ a3 : Fr, a3.at 0 = v → a3.at 3 = rv → a3.at 4 = ov' → a3.at 5 = I ((k + 1 : Nat) : Int) → riseOk l (risesS l) ((k + 1 : Nat) : Int) out i = true → Q2 (.jump (.exit 2)) a3 h3' := by
          intro a3 e0 e3 e4 e5 hok
          refine qx2 _ _ ⟨ov', by simp only [wxs, ↓reduceIte, Nat.reduceEqDiff, Nat.reduceAdd, Nat.reduceLT, reduceCtorEq, Int.reduceLE, Int.reduceLT, Int.reduceEq, Int.reduceNeg, Nat.reduceLeDiff, Nat.reduceBEq, e0, e3, e4, e5], ?_, ?_⟩
          · refine hk2.trans (m := h1.size) ⟨hk2.2.1, by have := hkp.2.1; omega, fun j hj => ?_⟩ (Nat.le_refl _)
            have := hk2.2.1
            rw [hold3 j (by have := hkp.2.1; omega) (fun e => by have := ho2.sid_ge j e; omega), at_push_old _ (by omega)]
          · rw [found hok]; simpa using ho3
        by_cases hA : (risesS l).getD i 0 = ((k + 1 : Nat) : Int)
        · have holen := fun h => ho2.sl.len h
          by_cases hB : out.length = 0
          · have hB' : (out.length : Int) = 0 := by omega
            simp only [wxs, ↓reduceIte, Nat.reduceEqDiff, Nat.reduceAdd, Nat.reduceLT, reduceCtorEq, Int.reduceLE, Int.reduceLT, Int.reduceEq, Int.reduceNeg, Nat.reduceLeDiff, Nat.reduceBEq, A41L1, g16, g0, g3, g4, g5, hc2, hix1, hld1, hA, holen, hB', happ]
            have hok : riseOk l (risesS l) ((k + 1 : Nat) : Int) out i = true := by unfold riseOk; rw [decide_eq_true hA]; simp [hB]
            exact fin2 _ (by simp only [wxs, ↓reduceIte, Nat.reduceEqDiff, Nat.reduceAdd, Nat.reduceLT, reduceCtorEq, Int.reduceLE, Int.reduceLT, Int.reduceEq, Int.reduceNeg, Nat.reduceLeDiff, Nat.reduceBEq, g0]) (by simp only [wxs, ↓reduceIte, Nat.reduceEqDiff, Nat.reduceAdd, Nat.reduceLT, reduceCtorEq, Int.reduceLE, Int.reduceLT, Int.reduceEq, Int.reduceNeg, Nat.reduceLeDiff, Nat.reduceBEq, g3]) (by simp only [wxs, ↓reduceIte, Nat.reduceEqDiff, Nat.reduceAdd, Nat.reduceLT, reduceCtorEq, Int.reduceLE, Int.reduceLT, Int.reduceEq, Int.reduceNeg, Nat.reduceLeDiff, Nat.reduceBEq]) (by simp only [wxs, ↓reduceIte, Nat.reduceEqDiff, Nat.reduceAdd, Nat.reduceLT, reduceCtorEq, Int.reduceLE, Int.reduceLT, Int.reduceEq, Int.reduceNeg, Nat.reduceLeDiff, Nat.reduceBEq, g5]) hok
          · have hB' : ¬ ((out.length : Int) = 0) := by omega
            have hwl : wrapA .i64 ((out.length : Int) - 1) = ((out.length - 1 : Nat) : Int) := by rw [wr (by omega) (by omega)]; omega
            have hos : Nats h2.size h2 ov out := ho2.sl
            obtain ⟨x2, hix2, hld2⟩ := hos.ix (x := ((out.length - 1 : Nat) : Int)) (i := out.length - 1) rfl (by omega)
            have hlast : out.getD (out.length - 1) 0 = out.getLastD 0 := by
              rw [List.getLastD_eq_getLast?, List.getLast?_eq_getElem?, List.getD_eq_getElem?_getD]
            rw [hlast] at hld2
            have hlm : out.getLastD 0 < l.length := by
              rw [← hlast, List.getD_eq_getElem?_getD, List.getElem?_eq_getElem (by omega)]
              exact hmem _ (List.getElem_mem _)
            by_cases hC : out.getLastD 0 < i
            · have hC' : ((out.getLastD 0 : Nat) : Int) < (i : Int) := by omega
              obtain ⟨x3, hix3, hld3⟩ := Ints.ix (hs.keep hkv) (x := (i : Int)) (i := i) rfl (by omega)
              obtain ⟨x4, hix4, hld4⟩ := Ints.ix (hs.keep hkv) (x := ((out.getLastD 0 : Nat) : Int)) (i := out.getLastD 0) rfl hlm
              by_cases hD : l.getD (out.getLastD 0) 0 < l.getD i 0
              · simp only [wxs, ↓reduceIte, Nat.reduceEqDiff, Nat.reduceAdd, Nat.reduceLT, reduceCtorEq, Int.reduceLE, Int.reduceLT, Int.reduceEq, Int.reduceNeg, Nat.reduceLeDiff, Nat.reduceBEq, A41L1, g16, g0, g3, g4, g5, hc2, hix1, hld1, hA, holen, hB', hwl, hix2, hld2, hC', hix3, hld3, hix4, hld4, hD, happ]
                have hok : riseOk l (risesS l) ((k + 1 : Nat) : Int) out i = true := by unfold riseOk; rw [decide_eq_true hA, decide_eq_true hC, decide_eq_true hD]; simp
                exact fin2 _ (by simp only [wxs, ↓reduceIte, Nat.reduceEqDiff, Nat.reduceAdd, Nat.reduceLT, reduceCtorEq, Int.reduceLE, Int.reduceLT, Int.reduceEq, Int.reduceNeg, Nat.reduceLeDiff, Nat.reduceBEq, g0]) (by simp only [wxs, ↓reduceIte, Nat.reduceEqDiff, Nat.reduceAdd, Nat.reduceLT, reduceCtorEq, Int.reduceLE, Int.reduceLT, Int.reduceEq, Int.reduceNeg, Nat.reduceLeDiff, Nat.reduceBEq, g3]) (by simp only [wxs, ↓reduceIte, Nat.reduceEqDiff, Nat.reduceAdd, Nat.reduceLT, reduceCtorEq, Int.reduceLE, Int.reduceLT, Int.reduceEq, Int.reduceNeg, Nat.reduceLeDiff, Nat.reduceBEq]) (by simp only [wxs, ↓reduceIte, Nat.reduceEqDiff, Nat.reduceAdd, Nat.reduceLT, reduceCtorEq, Int.reduceLE, Int.reduceLT, Int.reduceEq, Int.reduceNeg, Nat.reduceLeDiff, Nat.reduceBEq, g5]) hok
              · simp only [wxs, ↓reduceIte, Nat.reduceEqDiff, Nat.reduceAdd, Nat.reduceLT, reduceCtorEq, Int.reduceLE, Int.reduceLT, Int.reduceEq, Int.reduceNeg, Nat.reduceLeDiff, Nat.reduceBEq, A41L1, g16, g0, g3, g4, g5, hc2, hix1, hld1, hA, holen, hB', hwl, hix2, hld2, hC', hix3, hld3, hix4, hld4, hD]
                have hok : riseOk l (risesS l) ((k + 1 : Nat) : Int) out i = false := by unfold riseOk; rw [decide_eq_false hB, decide_eq_false hD]; simp
                exact qn2 () _ _ (by simp only [wxs, ↓reduceIte, Nat.reduceEqDiff, Nat.reduceAdd, Nat.reduceLT, reduceCtorEq, Int.reduceLE, Int.reduceLT, Int.reduceEq, Int.reduceNeg, Nat.reduceLeDiff, Nat.reduceBEq, hc2]) (by simp only [wxs, ↓reduceIte, Nat.reduceEqDiff, Nat.reduceAdd, Nat.reduceLT, reduceCtorEq, Int.reduceLE, Int.reduceLT, Int.reduceEq, Int.reduceNeg, Nat.reduceLeDiff, Nat.reduceBEq, hl2]) (by simp only [wxs, ↓reduceIte, Nat.reduceEqDiff, Nat.reduceAdd, Nat.reduceLT, reduceCtorEq, Int.reduceLE, Int.reduceLT, Int.reduceEq, Int.reduceNeg, Nat.reduceLeDiff, Nat.reduceBEq, g16, g0, g3, g4, g5]) ⟨hk2, ho2, fin _ hok rfl⟩
            · have hC' : ¬ ((out.getLastD 0 : Nat) : Int) < (i : Int) := by omega
              simp only [wxs, ↓reduceIte, Nat.reduceEqDiff, Nat.reduceAdd, Nat.reduceLT, reduceCtorEq, Int.reduceLE, Int.reduceLT, Int.reduceEq, Int.reduceNeg, Nat.reduceLeDiff, Nat.reduceBEq, A41L1, g16, g0, g3, g4, g5, hc2, hix1, hld1, hA, holen, hB', hwl, hix2, hld2, hC']
              have hok : riseOk l (risesS l) ((k + 1 : Nat) : Int) out i = false := by unfold riseOk; rw [decide_eq_false hB, decide_eq_false hC]; simp
              exact qn2 () _ _ (by simp only [wxs, ↓reduceIte, Nat.reduceEqDiff, Nat.reduceAdd, Nat.reduceLT, reduceCtorEq, Int.reduceLE, Int.reduceLT, Int.reduceEq, Int.reduceNeg, Nat.reduceLeDiff, Nat.reduceBEq, hc2]) (by simp only [wxs, ↓reduceIte, Nat.reduceEqDiff, Nat.reduceAdd, Nat.reduceLT, reduceCtorEq, Int.reduceLE, Int.reduceLT, Int.reduceEq, Int.reduceNeg, Nat.reduceLeDiff, Nat.reduceBEq, hl2]) (by simp only [wxs, ↓reduceIte, Nat.reduceEqDiff, Nat.reduceAdd, Nat.reduceLT, reduceCtorEq, Int.reduceLE, Int.reduceLT, Int.reduceEq, Int.reduceNeg, Nat.reduceLeDiff, Nat.reduceBEq, g16, g0, g3, g4, g5]) ⟨hk2, ho2, fin _ hok rfl⟩
        · simp only [wxs, ↓reduceIte, Nat.reduceEqDiff, Nat.reduceAdd, Nat.reduceLT, reduceCtorEq, Int.reduceLE, Int.reduceLT, Int.reduceEq, Int.reduceNeg, Nat.reduceLeDiff, Nat.reduceBEq, A41L1, g16, g0, g3, g4, g5, hc2, hix1, hld1, hA]
          have hok : riseOk l (risesS l) ((k + 1 : Nat) : Int) out i = false := by unfold riseOk; rw [decide_eq_false hA]; rfl
          exact qn2 () _ _ (by simp only [wxs, ↓reduceIte, Nat.reduceEqDiff, Nat.reduceAdd, Nat.reduceLT, reduceCtorEq, Int.reduceLE, Int.reduceLT, Int.reduceEq, Int.reduceNeg, Nat.reduceLeDiff, Nat.reduceBEq, hc2]) (by simp only [wxs, ↓reduceIte, Nat.reduceEqDiff, Nat.reduceAdd, Nat.reduceLT, reduceCtorEq, Int.reduceLE, Int.reduceLT, Int.reduceEq, Int.reduceNeg, Nat.reduceLeDiff, Nat.reduceBEq, hl2]) (by simp only [wxs, ↓reduceIte, Nat.reduceEqDiff, Nat.reduceAdd, Nat.reduceLT, reduceCtorEq, Int.reduceLE, Int.reduceLT, Int.reduceEq, Int.reduceNeg, Nat.reduceLeDiff, Nat.reduceBEq, g16, g0, g3, g4, g5]) ⟨hk2, ho2, fin _ hok rfl⟩
      · rintro _ a2 h2 he2 ⟨hk2, ho2, hno⟩
        simp only [env_cons, env_nil, and_true] at he2
        obtain ⟨g16, g0, g3, g4, g5⟩ := he2
        have : riseStep l (risesS l) ((k + 1 : Nat) : Int) out = out := by
          unfold riseStep
          have : (List.range (risesS l).length).find? (riseOk l (risesS l) ((k + 1 : Nat) : Int) out) = none := by
            rw [List.find?_eq_none]; intro p hp; rw [hno p (List.mem_range.1 hp)]; simp
          rw [this]
        refine ⟨ov, by simp only [wxs, ↓reduceIte, Nat.reduceEqDiff, Nat.reduceAdd, Nat.reduceLT, reduceCtorEq, Int.reduceLE, Int.reduceLT, Int.reduceEq, Int.reduceNeg, Nat.reduceLeDiff, Nat.reduceBEq, g0, g3, g4, g5], hk2, ?_⟩
        rw [this]; exact ho2
      · rintro a2 h2 ⟨ov', he2, hk2, ho2⟩
        simp only [env_cons, env_nil, and_true] at he2
        obtain ⟨g0, g3, g4, g5⟩ := he2
        have hw : wrapA .i64 (((k + 1 : Nat) : Int) - 1) = (k : Int) := by rw [wr (by omega) (by omega)]; omega
        simp only [wxs, ↓reduceIte, Nat.reduceEqDiff, Nat.reduceAdd, Nat.reduceLT, reduceCtorEq, Int.reduceLE, Int.reduceLT, Int.reduceEq, Int.reduceNeg, Nat.reduceLeDiff, Nat.reduceBEq, g0, g3, g4, g5, hw]
        refine qn (k, riseStep l (risesS l) ((k + 1 : Nat) : Int) out, ov') _ _ (Nat.lt_succ_self _) (by simp only [wxs, ↓reduceIte, Nat.reduceEqDiff, Nat.reduceAdd, Nat.reduceLT, reduceCtorEq, Int.reduceLE, Int.reduceLT, Int.reduceEq, Int.reduceNeg, Nat.reduceLeDiff, Nat.reduceBEq, g0, g3, g4]) ⟨by omega, hk2, ho2, ?_, ?_, ?_⟩
        · have e : ((k + 1 : Nat) : Int) = (k : Int) + 1 := by omega
          rw [← hloop, riseLoop, e]
        · exact riseStep_mem _ _ _ _ _ hrl hmem
        · have := riseStep_len l (risesS l) ((k + 1 : Nat) : Int) out
          simp only; omega
  · rintro a h' ⟨ov, h4, hk, ho⟩
    simp only [wxs, ↓reduceIte, Nat.reduceEqDiff, Nat.reduceAdd, Nat.reduceLT, reduceCtorEq, Int.reduceLE, Int.reduceLT, Int.reduceEq, Int.reduceNeg, Nat.reduceLeDiff, Nat.reduceBEq, h4]
    exact r _ _ ⟨hk1.trans hk hk1.2.1, ho.low hk1.2.1⟩
end AL
set_option linter.unusedVariables false
set_option linter.unusedSimpArgs false
namespace AL
open Go

theorem all_int (l : List Int) : (l.map I).all AV.one = true := by
  rw [List.all_eq_true]; intro x hx; obtain ⟨y, _, rfl⟩ := List.mem_map.1 hx; rfl

theorem Sl.nilq {m : Nat} {h : AH} {es : Nat} {v : AV} {n : Nat} {cs : List AV} (hs : Sl m h es v n cs) : (v = .slice none 0 (.known 0) ∧ n = 0 ∧ cs = []) ∨ eqA .slice v (.slice none 0 (.known 0)) = some false := by
  obtain ⟨hl, p, c, rfl, hp⟩ := hs
  rcases hp with ⟨rfl, rfl, rfl⟩ | ⟨id, o, l, rfl, _⟩
  · exact .inl ⟨rfl, rfl, List.length_eq_zero_iff.1 (by simpa using hl)⟩
  · exact .inr rfl

theorem c_clone {h : AH} {m : Nat} {v : AV} {l : List Int} (hs : Ints m h v l) (hm : m ≤ h.size) (hn : l.length ≤ 1000000) :
    WF FT NT 10 [v] h fun r h' => Keeps h.size h h' ∧ Own h.size h' 1 r l.length (l.map I) ∧ (0 < l.length → ∃ id, OwnAt h.size h' 1 r l.length (l.map I) id (.open 1) []) := by
  refine WF.body' (A := A10) rfl rfl rfl fun R r => ?_
  rcases Sl.nilq hs with ⟨rfl, h0, hcs⟩ | hne
  · have : l = [] := List.length_eq_zero_iff.1 h0
    subst this
    have e : eqA .slice (.slice none 0 (.known 0)) (.slice none 0 (.known 0)) = some true := rfl
    simp only [wxs, ↓reduceIte, Nat.reduceEqDiff, Nat.reduceAdd, Nat.reduceLT, reduceCtorEq, Int.reduceLE, Int.reduceLT, Int.reduceEq, Int.reduceNeg, Nat.reduceLeDiff, Nat.reduceBEq, A10, e]
    exact r _ _ ⟨.self, Own.nil _ _ _, fun e => absurd e (by simp)⟩
  · have hk1 : Keeps h.size h (h.push (.cells [])) := Keeps.self.push _
    have hz := Own.new (n0 := h.size) h [] 1 0 (Nat.le_refl _) rfl
    have hel := (hs.keep (hk1.lower hm)).elems
    by_cases hl0 : l.length = 0
    · have : l = [] := List.length_eq_zero_iff.1 hl0
      subst this
      have happ : v_app 1 8 (.slice (some (h.size, 0)) 0 (.known 0)) v (h.push (.cells [])) = some (.slice (some (h.size, 0)) 0 (.known 0), h.push (.cells [])) := by
        simp only [v_app, hel, appA]; simp
      simp only [wxs, ↓reduceIte, Nat.reduceEqDiff, Nat.reduceAdd, Nat.reduceLT, reduceCtorEq, Int.reduceLE, Int.reduceLT, Int.reduceEq, Int.reduceNeg, Nat.reduceLeDiff, Nat.reduceBEq, A10, hne, happ]
      exact r _ _ ⟨hk1, hz, fun e => absurd e (by simp)⟩
    · have happ : v_app 1 8 (.slice (some (h.size, 0)) 0 (.known 0)) v (h.push (.cells [])) = some (.slice (some ((h.push (.cells [])).size, 0)) l.length (.open 1), (h.push (.cells [])).push (.cells (l.map I))) := by
        have hno : ¬ (0 + l.length ≤ 0) := by omega
        have hca : cellsAt (h.push (.cells [])) h.size = some [] := by rw [cells_push, if_pos rfl]
        have hrd : readN [] 0 (0 * 1) = some ([] : List AV) := rfl
        simp only [v_app, hel, appA, if_neg hl0, if_neg hno, hca, hrd, appNew]
        rw [if_pos (by simp only [maxRoom]; omega)]
        simp
      simp only [wxs, ↓reduceIte, Nat.reduceEqDiff, Nat.reduceAdd, Nat.reduceLT, reduceCtorEq, Int.reduceLE, Int.reduceLT, Int.reduceEq, Int.reduceNeg, Nat.reduceLeDiff, Nat.reduceBEq, A10, hne, happ]
      have how : OwnAt h.size ((h.push (.cells [])).push (.cells (l.map I))) 1 (.slice (some ((h.push (.cells [])).size, 0)) l.length (.open 1)) l.length (l.map I) (h.push (.cells [])).size (.open 1) [] :=
        ⟨rfl, by simp only [AH.size_push]; omega, Nat.lt_succ_self _, by rw [List.append_nil]; exact at_push_new _, .inl ⟨rfl, rfl⟩⟩
      exact r _ _ ⟨hk1.push _, ⟨by simp, .inr ⟨_, _, _, how⟩⟩, fun _ => ⟨_, how⟩⟩

/-- slices.Reverse, in place -/
theorem c_reverse {h : AH} {n0 : Nat} {v : AV} {l : List Int} (ho : Own n0 h 1 v l.length (l.map I)) (hn : l.length < 4611686018427387904) :
    WF FT NT 11 [v] h fun _ h' => h'.size = h.size ∧ (∀ i, v.sid ≠ some i → h'.get i = h.get i) ∧ Own n0 h' 1 v l.length (l.reverse.map I) := by
  refine WF.body' (A := A11) rfl rfl rfl fun R r => ?_
  have hlen := fun h => ho.sl.len h
  have hw0 : wrapA .i64 ((l.length : Int) - 1) = (l.length : Int) - 1 := wr (by omega) (by omega)
  simp only [wxs, ↓reduceIte, Nat.reduceEqDiff, Nat.reduceAdd, Nat.reduceLT, reduceCtorEq, Int.reduceLE, Int.reduceLT, Int.reduceEq, Int.reduceNeg, Nat.reduceLeDiff, Nat.reduceBEq, A11, hlen, hw0]
  refine WS.loop (S := Nat × List Int) (fun s => [(0, v), (2, I (s.1 : Int)), (3, I ((l.length : Int) - 1 - (s.1 : Int)))])
    (fun s h' => s.1 ≤ l.length ∧ h'.size = h.size ∧ (∀ i, v.sid ≠ some i → h'.get i = h.get i) ∧ Own n0 h' 1 v l.length (s.2.map I) ∧ s.2.length = l.length ∧ ∀ p, p < l.length → s.2.getD p 0 = if p < s.1 ∨ l.length - s.1 ≤ p then l.getD (l.length - 1 - p) 0 else l.getD p 0)
    (fun s => l.length - s.1) (fun a h' => h'.size = h.size ∧ (∀ i, v.sid ≠ some i → h'.get i = h.get i) ∧ Own n0 h' 1 v l.length (l.reverse.map I)) (0, l) (by simp only [wxs, ↓reduceIte, Nat.reduceEqDiff, Nat.reduceAdd, Nat.reduceLT, reduceCtorEq, Int.reduceLE, Int.reduceLT, Int.reduceEq, Int.reduceNeg, Nat.reduceLeDiff, Nat.reduceBEq, Int.natCast_zero, Int.sub_zero]) ?_ ?_ ?_
  · refine ⟨Nat.zero_le _, rfl, fun _ _ => rfl, ho, rfl, fun p hp => ?_⟩
    rw [if_neg (by simp only; omega)]
  · rintro Q ⟨i, L⟩ a h' qn qx qj he ⟨hil, hsz, hold, ho', hL, hp⟩
    simp only [env_cons, env_nil, and_true] at he hil hL hp ho'
    obtain ⟨e0, e2, e3⟩ := he
    by_cases hlt : (i : Int) < (l.length : Int) - 1 - (i : Int)
    · have hj : (l.length : Int) - 1 - (i : Int) = ((l.length - 1 - i : Nat) : Int) := by omega
      rw [hj] at hlt e3
      have hin : i < l.length := by omega
      have hjn : l.length - 1 - i < l.length := by omega
      have hsl : Ints h'.size h' v L := by rw [Ints, hL]; exact ho'.sl
      obtain ⟨q1, hix1, hld1⟩ := hsl.ix (x := ((l.length - 1 - i : Nat) : Int)) (i := l.length - 1 - i) rfl (by omega)
      obtain ⟨q2, hix2, hld2⟩ := hsl.ix (x := (i : Int)) (i := i) rfl (by omega)
      obtain ⟨q3, h3, hix3, hst3, ho3, hsz3, hold3⟩ := ho'.put (x := (i : Int)) (i := i) rfl hin (w := I (L.getD (l.length - 1 - i) 0)) (one_int _ _)
      obtain ⟨q4, h4, hix4, hst4, ho4, hsz4, hold4⟩ := ho3.put (x := ((l.length - 1 - i : Nat) : Int)) (i := l.length - 1 - i) rfl hjn (w := I (L.getD i 0)) (one_int _ _)
      have hq3 : q3 = q2 := by have e1 := hix2 h; have e2 := hix3 h; rw [e1] at e2; simpa using e2.symm
      have hq4 : q4 = q1 := by have e1 := hix1 h; have e2 := hix4 h; rw [e1] at e2; simpa using e2.symm
      subst hq3 hq4
      have hw1 : wrapA .i64 ((i : Int) + 1) = ((i + 1 : Nat) : Int) := by rw [wr (by omega) (by omega)]; omega
      have hw2 : wrapA .i64 (((l.length - 1 - i : Nat) : Int) - 1) = (l.length : Int) - 1 - ((i + 1 : Nat) : Int) := by rw [wr (by omega) (by omega)]; omega
      simp only [wxs, ↓reduceIte, Nat.reduceEqDiff, Nat.reduceAdd, Nat.reduceLT, reduceCtorEq, Int.reduceLE, Int.reduceLT, Int.reduceEq, Int.reduceNeg, Nat.reduceLeDiff, Nat.reduceBEq, A11L0, e0, e2, e3, hlt, hix1, hld1, hix2, hld2, hst3, hst4, hw1, hw2]
      refine qn (i + 1, (L.set i (L.getD (l.length - 1 - i) 0)).set (l.length - 1 - i) (L.getD i 0)) _ _ (by simp only; omega) (by simp only [wxs, ↓reduceIte, Nat.reduceEqDiff, Nat.reduceAdd, Nat.reduceLT, reduceCtorEq, Int.reduceLE, Int.reduceLT, Int.reduceEq, Int.reduceNeg, Nat.reduceLeDiff, Nat.reduceBEq, e0]) ⟨by simp only; omega, by omega, fun k hk => by rw [hold4 k hk, hold3 k hk, hold k hk], ?_, by simpa using hL, fun p hpl => ?_⟩
      · rw [List.map_set, List.map_set]; exact ho4
      · simp only [List.getD_eq_getElem?_getD, List.getElem?_set, List.length_set] at hp ⊢
        have h1 := hp i hin
        have h2 := hp (l.length - 1 - i) hjn
        have h3 := hp p hpl
        rw [if_neg (by omega)] at h1 h2
        by_cases hpj : l.length - 1 - i = p
        · subst hpj
          rw [if_pos rfl, if_pos (by omega), if_pos (by omega), show l.length - 1 - (l.length - 1 - i) = i by omega, Option.getD_some, h1]
        · rw [if_neg hpj]
          by_cases hpi : i = p
          · subst hpi
            rw [if_pos rfl, if_pos (by omega), if_pos (by omega), Option.getD_some, h2]
          · rw [if_neg hpi, h3]
            by_cases hc : p < i ∨ l.length - i ≤ p
            · rw [if_pos hc, if_pos (by omega)]
            · rw [if_neg hc, if_neg (by omega)]
    · simp only [wxs, ↓reduceIte, Nat.reduceEqDiff, Nat.reduceAdd, Nat.reduceLT, reduceCtorEq, Int.reduceLE, Int.reduceLT, Int.reduceEq, Int.reduceNeg, Nat.reduceLeDiff, Nat.reduceBEq, A11L0, e0, e2, e3, hlt]
      refine qx _ _ ⟨hsz, hold, ?_⟩
      have : L = l.reverse := by
        apply List.ext_getElem (by simpa using hL)
        intro p h1 h2
        have := hp p (by omega)
        simp only [List.getD_eq_getElem?_getD, List.getElem?_eq_getElem h1, Option.getD_some] at this
        rw [this, List.getElem_reverse]
        by_cases hc : p < i ∨ l.length - i ≤ p
        · rw [if_pos hc, List.getElem?_eq_getElem (by omega)]; rfl
        · rw [if_neg hc, List.getElem?_eq_getElem (by omega)]
          have : l.length - 1 - p = p := by omega
          simp only [this]; rfl
      rw [← this]; exact ho'
  · rintro a h' ⟨hsz, hold, ho'⟩
    simp only [wxs, ↓reduceIte, Nat.reduceEqDiff, Nat.reduceAdd, Nat.reduceLT, reduceCtorEq, Int.reduceLE, Int.reduceLT, Int.reduceEq, Int.reduceNeg, Nat.reduceLeDiff, Nat.reduceBEq]
    exact r _ _ ⟨hsz, hold, ho'⟩

/-- slices.Delete of one element, in place -/
theorem c_delete {h : AH} {n0 id n i : Nat} {v : AV} {cs sp : List AV} (ho : OwnAt n0 h 1 v n cs id (.open 1) sp) (hcs : cs.length = n) (hone : cs.all AV.one = true) (hi : i < n) (hn : n < 4611686018427387904) :
    WF FT NT 89 [v, I i, I ((i + 1 : Nat) : Int)] h fun r h' => h'.size = h.size ∧ (∀ k, k ≠ id → h'.get k = h.get k) ∧ ∃ sp', OwnAt n0 h' 1 r (n - 1) (cs.eraseIdx i) id (.open 1) sp' := by
  obtain ⟨rfl, g1, g2, g3, g4⟩ := ho
  have hsp : sp.all AV.one = true := by
    rcases g4 with ⟨_, h⟩ | ⟨k, e, _⟩
    · exact h
    · cases e
  obtain ⟨w13, w22, w25, w31, h1, h2, e13, e22, e25, eapp, e31, ecl, hsz, hold, sp', hg', hsp'⟩ := del_facts (h := h) (Nat.lt_succ_self 0) g3 (by omega) (by rw [List.all_append, hone, hsp]; rfl) hi (zero := [I 0]) rfl rfl 8
  have hij : ¬ ((i : Int) = ((i + 1 : Nat) : Int)) := by omega
  refine WF.body' (A := A89) rfl rfl rfl fun R r => ?_
  simp only [wxs, ↓reduceIte, Nat.reduceEqDiff, Nat.reduceAdd, Nat.reduceLT, reduceCtorEq, Int.reduceLE, Int.reduceLT, Int.reduceEq, Int.reduceNeg, Nat.reduceLeDiff, Nat.reduceBEq, A89, e13, hij, e22, e25, eapp, e31, ecl]
  refine r _ _ ⟨hsz, hold, sp', rfl, g1, by omega, ?_, .inl ⟨rfl, hsp'⟩⟩
  rw [hg', Nat.mul_one, Nat.mul_one, List.eraseIdx_eq_take_drop_succ]

end AL
set_option linter.unusedVariables false
set_option linter.unusedSimpArgs false
namespace AL
open Go

theorem eraseIdx_map' {α β : Type} (f : α → β) (l : List α) (i : Nat) : (l.map f).eraseIdx i = (l.eraseIdx i).map f := by
  rw [List.eraseIdx_eq_take_drop_succ, List.eraseIdx_eq_take_drop_succ, List.map_append, List.map_take, List.map_drop]
def madeS (l : List Int) (fr to : Nat) : List Int := (l.eraseIdx fr).take to ++ [l.getD fr 0] ++ (l.eraseIdx fr).drop to
theorem madeS_length (l : List Int) (fr to : Nat) (hf : fr < l.length) (ht : to < l.length) : (madeS l fr to).length = l.length := by
  simp only [madeS, List.length_append, List.length_take, List.length_drop, List.length_eraseIdx, hf, if_true, List.length_singleton]; omega

theorem c_made {h : AH} {m : Nat} {v : AV} {l : List Int} (hs : Ints m h v l) (hm : m ≤ h.size) (hn : l.length ≤ 1000000) {fr to : Nat} (hf : fr < l.length) (ht : to < l.length) :
    WF FT NT 46 [v, .agg [I fr, I to]] h fun r h' => Keeps h.size h h' ∧ Own h.size h' 1 r l.length ((madeS l fr to).map I) := by
  refine WF.body' (A := A46) rfl rfl rfl fun R r => ?_
  have hk1 : Keeps h.size h (h.push (.cells [I fr, I to])) := Keeps.self.push _
  obtain ⟨q, hix, hld⟩ := Ints.ix (hs.keep (hk1.lower hm)) (x := (fr : Int)) (i := fr) rfl hf
  have hk2 : Keeps h.size h ((h.push (.cells [I fr, I to])).push (.cells [I (l.getD fr 0)])) := hk1.push _
  have hw : wrapA .i64 ((fr : Int) + 1) = ((fr + 1 : Nat) : Int) := by rw [wr (by omega) (by omega)]; omega
  have hne : ¬ (h.size = h.size + 1) := by omega
  simp only [wxs, ↓reduceIte, Nat.reduceEqDiff, Nat.reduceAdd, Nat.reduceLT, reduceCtorEq, Int.reduceLE, Int.reduceLT, Int.reduceEq, Int.reduceNeg, Nat.reduceLeDiff, Nat.reduceBEq, wms, A46, hix, hld, hw, hne]
  refine (c_clone (hs.keep (hk2.lower hm)) (Nat.le_trans hm hk2.2.1) hn).mono ?_
  rintro v1 h1 ⟨hk3, ho1, hat⟩
  obtain ⟨id, hat⟩ := hat (by omega)
  have hk3' := hk2.trans hk3 hk2.2.1
  have hc : cellsAt h1 h.size = some [I fr, I to] := by
    rw [cellsAt_congr (hk3.2.2 h.size (by simp only [AH.size_push]; omega)), cells_push, if_neg (by simp only [AH.size_push]; omega), cells_push, if_pos rfl]
  simp only [wxs, ↓reduceIte, Nat.reduceEqDiff, Nat.reduceAdd, Nat.reduceLT, reduceCtorEq, Int.reduceLE, Int.reduceLT, Int.reduceEq, Int.reduceNeg, Nat.reduceLeDiff, Nat.reduceBEq, wms, hc]
  have hid := hat.2.1
  refine (c_delete (n0 := (h.size + 1 + 1)) (i := fr) hat (by simp) (all_int l) hf (by omega)).mono ?_
  rintro v2 h2 ⟨hsz2, hold2, sp, hat2⟩
  have hidn : h.size ≠ id := by simp only [AH.size_push] at hid; omega
  have hc2 : cellsAt h2 h.size = some [I fr, I to] := by rw [cellsAt_congr (hold2 _ hidn)]; exact hc
  have hel : ((l.map I).eraseIdx fr) = (l.eraseIdx fr).map I := eraseIdx_map' _ _ _
  have hlen : (l.eraseIdx fr).length = l.length - 1 := by rw [List.length_eraseIdx, if_pos hf]
  have hown2 : Own (h.size + 1 + 1) h2 1 v2 (l.length - 1) ((l.eraseIdx fr).map I) := ⟨by simp [hlen], .inr ⟨id, _, sp, by rw [← hel]; exact hat2⟩⟩
  have hopen : ∀ id' c' sp', OwnAt (h.size + 1 + 1) h2 1 v2 (l.length - 1) ((l.eraseIdx fr).map I) id' c' sp' → c' = .open 1 := by
    intro id' c' sp' ho'
    have e1 := ho'.1
    rw [hat2.1] at e1
    simp only [AV.slice.injEq] at e1
    exact e1.2.2.symm
  have hg22 : h2.get (h.size + 1) = some (.cells [I (l.getD fr 0)]) := by
    rw [hold2 _ (by simp only [AH.size_push] at hid; omega), hk3.2.2 _ (by simp only [AH.size_push]; omega), AH.get_push, if_pos (show h.size + 1 = (h.push _).size from rfl)]
  have hw22 : elemsA h2 1 (.slice (some (h.size + 1, 0)) 1 (.known 1)) = some (1, [I (l.getD fr 0)]) := by
    simp only [elemsA, elemsAt, cells_of hg22]; rfl
  have hs2 : h.size + 1 + 1 ≤ h2.size := by have := hk3.2.1; simp only [AH.size_push] at this; omega
  obtain ⟨v3, h3, hins, ⟨id3, hat3⟩, hsz3, hold3, _⟩ := insA_own (es := 1) hown2 hs2 hopen hw22 rfl (Nat.lt_succ_self 0) (i := to) (by omega) (by simp only [maxRoom]; omega) rfl (all_int _) (by rw [wcells_of hg22]; rfl) (by rw [hat2.1]; intro e; simp only [AV.sid, Option.some.injEq] at e; simp only [AH.size_push] at hid; omega)
  simp only [wxs, ↓reduceIte, Nat.reduceEqDiff, Nat.reduceAdd, Nat.reduceLT, reduceCtorEq, Int.reduceLE, Int.reduceLT, Int.reduceEq, Int.reduceNeg, Nat.reduceLeDiff, Nat.reduceBEq, wms, hc2, true_and]
  refine WF.native (g := insA 1) rfl hins ?_
  simp only [wxs, ↓reduceIte, Nat.reduceEqDiff, Nat.reduceAdd, Nat.reduceLT, reduceCtorEq, Int.reduceLE, Int.reduceLT, Int.reduceEq, Int.reduceNeg, Nat.reduceLeDiff, Nat.reduceBEq]
  refine r _ _ ⟨⟨Nat.le_refl _, by have := hk3'.2.1; omega, fun i hi => ?_⟩, ?_, .inr ⟨id3, .open 1, [], ?_⟩⟩
  · rw [hold3 i (by omega) (fun e => by have := hown2.sid_ge i e; omega), hold2 i (by simp only [AH.size_push] at hid; omega), hk3'.2.2 i hi]
  · simp [madeS_length l fr to hf ht]
  · obtain ⟨e1, e2, e3, e4, e5⟩ := hat3
    refine ⟨by rw [e1]; congr 1; omega, by omega, e3, ?_, .inl ⟨rfl, rfl⟩⟩
    rw [e4, madeS]; simp

abbrev Moves (m : Nat) (h : AH) (v : AV) (l : List (Nat × Nat)) : Prop := Recs 2 (fun p : Nat × Nat => [I p.1, I p.2]) m h v l
def makeS (l : List Int) (ms : List (Nat × Nat)) : List Int := ms.foldl (fun L p => madeS L p.1 p.2) l

theorem c_make {h : AH} {m : Nat} {v w : AV} {l : List Int} {ms : List (Nat × Nat)} (hs : Ints m h v l) (hw : Moves m h w ms) (hm : m ≤ h.size) {n : Nat} (hn : 1 ≤ n ∧ n ≤ 7) (ho : IsOrder l n) (hmv : ∀ p ∈ ms, p.1 < n ∧ p.2 < n) (hml : ms.length < 1000000) :
    WF FT NT 15 [v, w] h fun r h' => Keeps h.size h h' ∧ ∃ u, r = .tuple [u, I 0] ∧ Ints h'.size h' u (makeS l ms) ∧ (makeS l ms).length = n := by
  refine WF.body' (A := A15) rfl rfl rfl fun R r => ?_
  have hln := ho.1
  have hlen := fun h => hw.len h
  simp only [wxs, ↓reduceIte, Nat.reduceEqDiff, Nat.reduceAdd, Nat.reduceLT, reduceCtorEq, Int.reduceLE, Int.reduceLT, Int.reduceEq, Int.reduceNeg, Nat.reduceLeDiff, Nat.reduceBEq, A15]
  refine (c_alone hs hm n hn ho).mono ?_
  rintro v1 h1 ⟨hk1, rfl⟩
  simp only [wxs, ↓reduceIte, Nat.reduceEqDiff, Nat.reduceAdd, Nat.reduceLT, reduceCtorEq, Int.reduceLE, Int.reduceLT, Int.reduceEq, Int.reduceNeg, Nat.reduceLeDiff, Nat.reduceBEq]
  refine (c_clone (hs.keep (hk1.lower hm)) (Nat.le_trans hm hk1.2.1) (by omega)).mono ?_
  rintro v2 h2 ⟨hk2, ho2, _⟩
  have hk2' := hk1.trans hk2 hk1.2.1
  simp only [wxs, ↓reduceIte, Nat.reduceEqDiff, Nat.reduceAdd, Nat.reduceLT, reduceCtorEq, Int.reduceLE, Int.reduceLT, Int.reduceEq, Int.reduceNeg, Nat.reduceLeDiff, Nat.reduceBEq, hlen]
  refine WS.range (cnt := 19) (lim := 18) (S := AV × List Int) ms.length (fun i s => [(17, w), (7, s.1)])
    (fun i s h' => Keeps h.size h h' ∧ Ints h'.size h' s.1 s.2 ∧ s.2.length = n ∧ s.2 = makeS l (ms.take i))
    (fun a h' => Keeps h.size h h' ∧ ∃ u, a.at 7 = u ∧ Ints h'.size h' u (makeS l ms) ∧ (makeS l ms).length = n) (v2, l) (by decide) (by omega) (fun _ _ => rfl) (by simp only [wxs, ↓reduceIte, Nat.reduceEqDiff, Nat.reduceAdd, Nat.reduceLT, reduceCtorEq, Int.reduceLE, Int.reduceLT, Int.reduceEq, Int.reduceNeg, Nat.reduceLeDiff, Nat.reduceBEq]) (by simp only [wxs, ↓reduceIte, Nat.reduceEqDiff, Nat.reduceAdd, Nat.reduceLT, reduceCtorEq, Int.reduceLE, Int.reduceLT, Int.reduceEq, Int.reduceNeg, Nat.reduceLeDiff, Nat.reduceBEq]) (by simp only [wxs, ↓reduceIte, Nat.reduceEqDiff, Nat.reduceAdd, Nat.reduceLT, reduceCtorEq, Int.reduceLE, Int.reduceLT, Int.reduceEq, Int.reduceNeg, Nat.reduceLeDiff, Nat.reduceBEq]) ?_ ?_ ?_ ?_
  · exact ⟨hk2', ho2.sl, hln, by simp [makeS]⟩
  · rintro Q i ⟨u, L⟩ a h' hi qn qc qx qj hc hl he ⟨hk, hL, hLn, hLe⟩
    simp only [env_cons, env_nil, and_true] at he hL hLn hLe
    obtain ⟨e17, e7⟩ := he
    have hget : ms[i]? = some ms[i] := List.getElem?_eq_getElem hi
    have hpm := hmv ms[i] (List.getElem_mem hi)
    generalize ms[i] = p0 at hget hpm
    obtain ⟨pf, pt⟩ := p0
    simp only at hpm
    obtain ⟨id, o, hid, hix, hld, _⟩ := Recs.ix (enc := fun p : Nat × Nat => [I p.1, I p.2]) (hw.keep (hk.lower hm)) (fun _ => rfl) (x := (i : Int)) (i := i) rfl hget
    have hulen := fun h => hL.len h
    have hw1 : wrapA .i64 ((L.length : Int) - 1) = (n : Int) - 1 := by rw [wr (by omega) (by omega)]; omega
    have hk3 : Keeps h.size h (h'.push (.cells [I 0, I 0])) := hk.push _
    have hk4 : Keeps h.size h ((h'.push (.cells [I 0, I 0])).set h'.size (.cells [I pf, I pt])) := hk3.set (by have := hk.2.1; omega) _
    simp only [wxs, ↓reduceIte, Nat.reduceEqDiff, Nat.reduceAdd, Nat.reduceLT, reduceCtorEq, Int.reduceLE, Int.reduceLT, Int.reduceEq, Int.reduceNeg, Nat.reduceLeDiff, Nat.reduceBEq, wms, e17, e7, hc, hix, hld, hulen, hw1]
    refine (c_in _ _ _ _).mono ?_
    rintro v5 h5 ⟨rfl, rfl⟩
    have hA : (0 : Int) ≤ (pf : Int) ∧ (pf : Int) ≤ (n : Int) - 1 := by omega
    have hB : (0 : Int) ≤ (pt : Int) ∧ (pt : Int) ≤ (n : Int) - 1 := by omega
    simp only [wxs, ↓reduceIte, Nat.reduceEqDiff, Nat.reduceAdd, Nat.reduceLT, reduceCtorEq, Int.reduceLE, Int.reduceLT, Int.reduceEq, Int.reduceNeg, Nat.reduceLeDiff, Nat.reduceBEq, wms, e17, e7, hc, hA, and_self, hulen, hw1]
    refine (c_in _ _ _ _).mono ?_
    rintro v6 h6 ⟨rfl, rfl⟩
    simp only [wxs, ↓reduceIte, Nat.reduceEqDiff, Nat.reduceAdd, Nat.reduceLT, reduceCtorEq, Int.reduceLE, Int.reduceLT, Int.reduceEq, Int.reduceNeg, Nat.reduceLeDiff, Nat.reduceBEq, wms, e17, e7, hc, hB, and_self]
    have hL4 : Ints h'.size ((h'.push (.cells [I 0, I 0])).set h'.size (.cells [I pf, I pt])) u L := by
      refine hL.of_same fun j hj => ?_
      have hlt := hL.sid_lt j hj
      exact ⟨by rw [AH.get_put, if_neg (by omega), at_push_old _ hlt], hlt⟩
    refine (c_made hL4 (by simp only [AH.size_put, AH.size_push]; omega) (by omega) (fr := pf) (to := pt) (by omega) (by omega)).mono ?_
    rintro v7 h7 ⟨hk7, ho7⟩
    simp only [wxs, ↓reduceIte, Nat.reduceEqDiff, Nat.reduceAdd, Nat.reduceLT, reduceCtorEq, Int.reduceLE, Int.reduceLT, Int.reduceEq, Int.reduceNeg, Nat.reduceLeDiff, Nat.reduceBEq]
    refine qn (v7, madeS L pf pt) _ _ (by simp only [wxs, ↓reduceIte, Nat.reduceEqDiff, Nat.reduceAdd, Nat.reduceLT, reduceCtorEq, Int.reduceLE, Int.reduceLT, Int.reduceEq, Int.reduceNeg, Nat.reduceLeDiff, Nat.reduceBEq, hc]) (by simp only [wxs, ↓reduceIte, Nat.reduceEqDiff, Nat.reduceAdd, Nat.reduceLT, reduceCtorEq, Int.reduceLE, Int.reduceLT, Int.reduceEq, Int.reduceNeg, Nat.reduceLeDiff, Nat.reduceBEq, hl]) (by simp only [wxs, ↓reduceIte, Nat.reduceEqDiff, Nat.reduceAdd, Nat.reduceLT, reduceCtorEq, Int.reduceLE, Int.reduceLT, Int.reduceEq, Int.reduceNeg, Nat.reduceLeDiff, Nat.reduceBEq, e17]) ⟨hk4.trans hk7 hk4.2.1, ?_, ?_, ?_⟩
    · have := ho7.sl
      rw [Ints, madeS_length L pf pt (by omega) (by omega)]; exact this
    · simp only; rw [madeS_length L pf pt (by omega) (by omega)]; exact hLn
    · simp only
      rw [hLe, makeS, makeS, take_snoc ms i hi, List.foldl_append]
      rw [List.getElem?_eq_getElem hi, Option.some.injEq] at hget
      rw [hget]; rfl
  · rintro ⟨u, L⟩ a h' he ⟨hk, hL, hLn, hLe⟩
    simp only [env_cons, env_nil, and_true] at he hL hLn hLe
    rw [List.take_of_length_le (Nat.le_refl _)] at hLe
    exact ⟨hk, u, he.2, by rw [← hLe]; exact hL, by rw [← hLe]; exact hLn⟩
  · rintro a h' ⟨hk, u, e7, hu, hun⟩
    simp only [wxs, ↓reduceIte, Nat.reduceEqDiff, Nat.reduceAdd, Nat.reduceLT, reduceCtorEq, Int.reduceLE, Int.reduceLT, Int.reduceEq, Int.reduceNeg, Nat.reduceLeDiff, Nat.reduceBEq, e7]
    exact r _ _ ⟨hk, u, rfl, hu, hun⟩
end AL
set_option linter.unusedVariables false
set_option linter.unusedSimpArgs false
namespace AL
open Go

/-! plain laws of lace -/
theorem madeS_back (l : List Int) (f t : Nat) (hf : f < l.length) (ht : t < l.length) : madeS (madeS l f t) t f = l := by
  have hel : (l.eraseIdx f).length = l.length - 1 := by rw [List.length_eraseIdx, if_pos hf]
  have htk : ((l.eraseIdx f).take t).length = t := by rw [List.length_take]; omega
  have e1 : (madeS l f t).eraseIdx t = l.eraseIdx f := by
    rw [madeS, List.append_assoc, List.eraseIdx_append_of_length_le (by omega), htk, Nat.sub_self]
    simp
  have e2 : (madeS l f t).getD t 0 = l.getD f 0 := by
    rw [madeS, List.append_assoc, List.getD_eq_getElem?_getD, List.getElem?_append_right (by omega), htk, Nat.sub_self]
    simp
  have h1 : (l.take f).length = f := by rw [List.length_take]; omega
  rw [madeS, e1, e2, List.eraseIdx_eq_take_drop_succ, List.take_left' h1, List.drop_left' h1]
  have : l.getD f 0 = l[f] := by simp [hf]
  rw [this, List.append_assoc, List.singleton_append, ← List.drop_eq_getElem_cons hf, List.take_append_drop]

theorem makeS_len (n : Nat) : ∀ (ms : List (Nat × Nat)) (l : List Int), l.length = n → (∀ p ∈ ms, p.1 < n ∧ p.2 < n) → (makeS l ms).length = n
  | [], l, h, _ => h
  | p :: ms, l, h, hm => by
    have hp := hm p (by simp)
    exact makeS_len n ms (madeS l p.1 p.2) (by rw [madeS_length _ _ _ (by omega) (by omega), h]) fun q hq => hm q (by simp [hq])

theorem makeS_back (n : Nat) : ∀ (ms : List (Nat × Nat)) (l : List Int), l.length = n → (∀ p ∈ ms, p.1 < n ∧ p.2 < n) → makeS l (ms ++ (ms.map fun p => (p.2, p.1)).reverse) = l
  | [], l, h, _ => rfl
  | p :: ms, l, h, hm => by
    have hp := hm p (by simp)
    have hl : (madeS l p.1 p.2).length = n := by rw [madeS_length _ _ _ (by omega) (by omega), h]
    have ih := makeS_back n ms (madeS l p.1 p.2) hl fun q hq => hm q (by simp [hq])
    have : makeS l (p :: ms ++ ((p :: ms).map fun p => (p.2, p.1)).reverse) = makeS (makeS (madeS l p.1 p.2) (ms ++ (ms.map fun p => (p.2, p.1)).reverse)) [(p.2, p.1)] := by
      simp only [makeS, List.map_cons, List.reverse_cons, List.cons_append, List.foldl_cons, List.foldl_append, List.foldl_nil]
    rw [this, ih]
    exact madeS_back l p.1 p.2 (by omega) (by omega)

/-! rises -/
theorem riseIn_max (x : Int) : ∀ (l : List (Int × Int)) (a : Int), 0 ≤ a → (∀ p ∈ l, 1 ≤ p.2) → a ≤ l.foldl (riseIn x) a ∧ (∀ p ∈ l, x < p.1 → p.2 ≤ l.foldl (riseIn x) a) ∧ (l.foldl (riseIn x) a = a ∨ ∃ p ∈ l, x < p.1 ∧ p.2 = l.foldl (riseIn x) a)
  | [], a, h, _ => ⟨by simp, by simp, .inl rfl⟩
  | q :: l, a, h, hp => by
    have hq := hp q (by simp)
    have h0 : 0 ≤ riseIn x a q := by simp only [riseIn]; split <;> omega
    obtain ⟨h1, h2, h3⟩ := riseIn_max x l (riseIn x a q) h0 fun p hp' => hp p (by simp [hp'])
    have hle : a ≤ riseIn x a q := by simp only [riseIn]; split <;> omega
    simp only [List.foldl_cons]
    refine ⟨by omega, fun p hp' hx => ?_, ?_⟩
    · rcases List.mem_cons.1 hp' with rfl | hp'
      · have : p.2 ≤ riseIn x a p := by simp only [riseIn, if_pos hx]; omega
        omega
      · exact h2 p hp' hx
    · rcases h3 with h3 | ⟨p, hp', hx, he⟩
      · rw [h3]
        by_cases hx : x < q.1
        · by_cases hqa : a < q.2
          · exact .inr ⟨q, by simp, hx, by simp only [riseIn, if_pos hx]; omega⟩
          · exact .inl (by simp only [riseIn, if_pos hx]; omega)
        · exact .inl (by simp only [riseIn, if_neg hx])
      · exact .inr ⟨p, by simp [hp'], hx, he⟩

/-- what the numbers of rises say -/
theorem rises_at : ∀ (l : List Int) (p : Nat), p < l.length →
    (∀ q, p < q → q < l.length → l.getD p 0 < l.getD q 0 → (risesS l).getD q 0 < (risesS l).getD p 0) ∧
    (1 < (risesS l).getD p 0 → ∃ q, p < q ∧ q < l.length ∧ l.getD p 0 < l.getD q 0 ∧ (risesS l).getD q 0 + 1 = (risesS l).getD p 0)
  | [], p, h => by simp at h
  | x :: xs, 0, _ => by
    have hz : ∀ q, q < xs.length → (xs.getD q 0, (risesS xs).getD q 0) ∈ List.zip xs (risesS xs) := by
      intro q hq
      have hq2 : q < (risesS xs).length := by rw [risesS_length]; exact hq
      have : (List.zip xs (risesS xs))[q]'(by rw [List.length_zip]; omega) = (xs.getD q 0, (risesS xs).getD q 0) := by
        simp [List.getElem_zip, hq, hq2]
      rw [← this]; exact List.getElem_mem _
    obtain ⟨h1, h2, h3⟩ := riseIn_max x (List.zip xs (risesS xs)) 0 (by omega) fun p hp => (risesS_bound xs p.2 (List.of_mem_zip hp).2).1
    refine ⟨fun q hq hql hlt => ?_, fun hlt => ?_⟩
    · obtain ⟨q, rfl⟩ : ∃ k, q = k + 1 := ⟨q - 1, by omega⟩
      simp only [List.getD_cons_succ, List.getD_cons_zero, risesS, List.length_cons] at hlt hql ⊢
      have := h2 _ (hz q (by omega)) hlt
      simp only at this
      omega
    · simp only [risesS, List.getD_cons_zero] at hlt ⊢
      rcases h3 with h3 | ⟨p, hp, hx, he⟩
      · omega
      · obtain ⟨q, hq, hqe⟩ := List.getElem_of_mem hp
        have hq1 : q < xs.length := by rw [List.length_zip] at hq; omega
        have hq2 : q < (risesS xs).length := by rw [risesS_length]; exact hq1
        rw [List.getElem_zip] at hqe
        refine ⟨q + 1, by omega, by simp only [List.length_cons]; omega, ?_, ?_⟩
        · simp only [List.getD_cons_succ]
          rw [← hqe] at hx
          simpa [hq1] using hx
        · simp only [List.getD_cons_succ]
          rw [← hqe] at he
          simp only at he
          have : (risesS xs).getD q 0 = (risesS xs)[q] := by simp [hq2]
          omega
  | x :: xs, p + 1, h => by
    obtain ⟨h1, h2⟩ := rises_at xs p (by simpa using h)
    refine ⟨fun q hq hql hlt => ?_, fun hlt => ?_⟩
    · obtain ⟨q, rfl⟩ : ∃ k, q = k + 1 := ⟨q - 1, by omega⟩
      simp only [List.getD_cons_succ, risesS, List.length_cons] at hlt hql ⊢
      exact h1 q (by omega) (by omega) hlt
    · simp only [risesS, List.getD_cons_succ] at hlt ⊢
      obtain ⟨q, g1, g2, g3, g4⟩ := h2 hlt
      exact ⟨q + 1, by omega, by simp only [List.length_cons]; omega, by simpa using g3, by simpa using g4⟩

theorem foldl_max_mem : ∀ (l : List Int) (a : Int), (l.foldl max a = a ∨ l.foldl max a ∈ l) ∧ a ≤ l.foldl max a ∧ ∀ x ∈ l, x ≤ l.foldl max a
  | [], a => ⟨.inl rfl, Int.le_refl _, by simp⟩
  | x :: l, a => by
    obtain ⟨h1, h2, h3⟩ := foldl_max_mem l (max a x)
    simp only [List.foldl_cons]
    refine ⟨?_, by omega, fun y hy => ?_⟩
    · rcases h1 with h1 | h1
      · rw [h1]
        by_cases hax : x ≤ a
        · exact .inl (by omega)
        · exact .inr (by rw [show max a x = x by omega]; exact List.mem_cons_self)
      · exact .inr (List.mem_cons_of_mem _ h1)
    · rcases List.mem_cons.1 hy with rfl | hy
      · omega
      · exact h3 y hy

theorem find_some {f : Nat → Bool} {n p : Nat} (hp : p < n) (hf : f p = true) : ∃ q, (List.range n).find? f = some q ∧ f q = true ∧ q < n := by
  cases h : (List.range n).find? f with
  | none => rw [List.find?_eq_none] at h; exact absurd hf (h p (List.mem_range.2 hp))
  | some q => exact ⟨q, rfl, List.find?_some h, List.mem_range.1 (List.mem_of_find?_eq_some h)⟩

theorem riseLoop_len (l : List Int) : ∀ (k : Nat) (out : List Nat), out ≠ [] → out.getLastD 0 < l.length → (risesS l).getD (out.getLastD 0) 0 = (k : Int) + 1 → (riseLoop l (risesS l) k out).length = out.length + k
  | 0, out, _, _, _ => rfl
  | k + 1, out, hne, hlt, hr => by
    obtain ⟨_, h2⟩ := rises_at l _ hlt
    obtain ⟨q, g1, g2, g3, g4⟩ := h2 (by omega)
    have hok : riseOk l (risesS l) ((k : Int) + 1) out q = true := by
      unfold riseOk
      rw [decide_eq_true (show (risesS l).getD q 0 = (k : Int) + 1 by omega), decide_eq_true g1, decide_eq_true g3]; simp
    obtain ⟨p, e1, e2, e3⟩ := find_some (n := (risesS l).length) (by rw [risesS_length]; exact g2) hok
    have hrp : (risesS l).getD p 0 = (k : Int) + 1 := by
      unfold riseOk at e2
      simp only [Bool.and_eq_true, decide_eq_true_eq] at e2
      exact e2.1
    rw [riseLoop, riseStep, e1]
    have hlast : (out ++ [p]).getLastD 0 = p := by simp
    rw [riseLoop_len l k (out ++ [p]) (by simp) (by rw [hlast, ← risesS_length l]; exact e3) (by rw [hlast]; exact hrp)]
    simp; omega

theorem riseS_len (l : List Int) (hl : l ≠ []) : ((riseS l).length : Int) = (risesS l).foldl max 0 := by
  obtain ⟨h1, h2, h3⟩ := foldl_max_mem (risesS l) 0
  have hmem : (risesS l).foldl max 0 ∈ risesS l := by
    rcases h1 with h1 | h1
    · obtain ⟨x, xs, rfl⟩ : ∃ x xs, l = x :: xs := by cases l with
        | nil => exact absurd rfl hl
        | cons x xs => exact ⟨x, xs, rfl⟩
      have hm : (risesS (x :: xs)).getD 0 0 ∈ risesS (x :: xs) := by simp [risesS]
      have := h3 _ hm
      have := (risesS_bound (x :: xs) _ hm).1
      omega
    · exact h1
  have hb := risesS_bound l _ hmem
  obtain ⟨g, hg⟩ : ∃ g : Nat, (risesS l).foldl max 0 = (g : Int) + 1 := ⟨((risesS l).foldl max 0 - 1).toNat, by omega⟩
  obtain ⟨p, hp, hpe⟩ := List.getElem_of_mem hmem
  have hok : riseOk l (risesS l) ((g : Int) + 1) [] p = true := by
    unfold riseOk
    rw [decide_eq_true (show (risesS l).getD p 0 = (g : Int) + 1 by rw [← hg, ← hpe]; simp [hp])]; simp
  obtain ⟨q, e1, e2, e3⟩ := find_some (n := (risesS l).length) hp hok
  have hrq : (risesS l).getD q 0 = (g : Int) + 1 := by
    unfold riseOk at e2
    simp only [Bool.and_eq_true, decide_eq_true_eq] at e2
    exact e2.1
  have : riseS l = riseLoop l (risesS l) g [q] := by
    unfold riseS
    rw [hg, show ((g : Int) + 1).toNat = g + 1 by omega, riseLoop, riseStep, e1]; rfl
  rw [this, riseLoop_len l g [q] (by simp) (by simp; rw [← risesS_length l]; exact e3) (by simpa using hrq), hg]
  simp; omega

theorem pigeon {α : Type} [DecidableEq α] : ∀ (l m : List α), l.Nodup → (∀ x ∈ l, x ∈ m) → l.length ≤ m.length
  | [], m, _, _ => Nat.zero_le _
  | x :: l, m, hn, hs => by
    rw [List.nodup_cons] at hn
    have hx := hs x (by simp)
    have ih := pigeon l (m.erase x) hn.2 fun y hy => (List.mem_erase_of_ne (fun e => hn.1 (by rw [← e]; exact hy))).2 (hs y (by simp [hy]))
    rw [List.length_erase_of_mem hx] at ih
    have := List.length_pos_of_mem hx
    simp only [List.length_cons]; omega

theorem getD_reverse (l : List Int) (p : Nat) (hp : p < l.length) : l.reverse.getD p 0 = l.getD (l.length - 1 - p) 0 := by
  rw [List.getD_eq_getElem?_getD, List.getElem?_reverse hp, List.getD_eq_getElem?_getD]

theorem rise_law (l : List Int) (hl : l ≠ []) (hnd : l.Nodup) : l.length ≤ (riseS l).length * (riseS l.reverse).length := by
  have ha := riseS_len l hl
  have hb := riseS_len l.reverse (by simpa using hl)
  obtain ⟨_, _, hA⟩ := foldl_max_mem (risesS l) 0
  obtain ⟨_, _, hB⟩ := foldl_max_mem (risesS l.reverse) 0
  have hLr : l.reverse.length = l.length := List.length_reverse
  have rA : ∀ p, p < l.length → 1 ≤ (risesS l).getD p 0 ∧ (risesS l).getD p 0 ≤ (riseS l).length := by
    intro p hp
    have hp' : p < (risesS l).length := by rw [risesS_length]; exact hp
    have hm : (risesS l).getD p 0 ∈ risesS l := by
      have : (risesS l).getD p 0 = (risesS l)[p] := by simp [hp']
      rw [this]; exact List.getElem_mem _
    exact ⟨(risesS_bound l _ hm).1, by rw [ha]; exact hA _ hm⟩
  have rB : ∀ p, p < l.length → 1 ≤ (risesS l.reverse).getD p 0 ∧ (risesS l.reverse).getD p 0 ≤ (riseS l.reverse).length := by
    intro p hp
    have hp' : p < (risesS l.reverse).length := by rw [risesS_length, hLr]; exact hp
    have hm : (risesS l.reverse).getD p 0 ∈ risesS l.reverse := by
      have : (risesS l.reverse).getD p 0 = (risesS l.reverse)[p] := by simp [hp']
      rw [this]; exact List.getElem_mem _
    exact ⟨(risesS_bound l.reverse _ hm).1, by rw [hb]; exact hB _ hm⟩
  have inj : ∀ p q, p < q → q < l.length → ((risesS l).getD p 0 ≠ (risesS l).getD q 0 ∨ (risesS l.reverse).getD (l.length - 1 - p) 0 ≠ (risesS l.reverse).getD (l.length - 1 - q) 0) := by
    intro p q hpq hq
    have hne : l.getD p 0 ≠ l.getD q 0 := by
      intro e
      have hp : p < l.length := by omega
      simp only [List.getD_eq_getElem?_getD, List.getElem?_eq_getElem hp, List.getElem?_eq_getElem hq, Option.getD_some] at e
      have := (List.getElem_inj hnd).1 e
      omega
    by_cases hlt : l.getD p 0 < l.getD q 0
    · left
      have := (rises_at l p (by omega)).1 q hpq hq hlt
      omega
    · right
      have := (rises_at l.reverse (l.length - 1 - q) (by rw [hLr]; omega)).1 (l.length - 1 - p) (by omega) (by rw [hLr]; omega) (by
        rw [getD_reverse l _ (by omega), getD_reverse l _ (by omega), show l.length - 1 - (l.length - 1 - q) = q by omega, show l.length - 1 - (l.length - 1 - p) = p by omega]
        omega)
      omega
  -- pairs of numbers, all of them different
  obtain ⟨a, hae⟩ : ∃ a, a = (riseS l).length := ⟨_, rfl⟩
  obtain ⟨b, hbe⟩ : ∃ b, b = (riseS l.reverse).length := ⟨_, rfl⟩
  rw [← hae] at rA; rw [← hbe] at rB; rw [← hae, ← hbe]
  have key := pigeon ((List.range l.length).map fun p => (((risesS l).getD p 0 - 1).toNat, ((risesS l.reverse).getD (l.length - 1 - p) 0 - 1).toNat))
    ((List.range a).flatMap fun i => (List.range b).map fun j => (i, j)) ?_ ?_
  · simp only [List.length_map, List.length_range, List.length_flatMap] at key
    have hsum : (List.map (fun _ : Nat => b) (List.range a)).sum = a * b := by
      rw [List.map_const', List.length_range, List.sum_replicate_nat]
    rw [hsum] at key; exact key
  · rw [List.nodup_iff_pairwise_ne, List.pairwise_map]
    refine List.Pairwise.imp_of_mem ?_ (List.pairwise_lt_range (n := l.length))
    intro p q hp hq hlt e
    rw [List.mem_range] at hp hq
    simp only [Prod.mk.injEq] at e
    have h1 := rA p hp; have h2 := rA q hq; have h3 := rB (l.length - 1 - p) (by omega); have h4 := rB (l.length - 1 - q) (by omega)
    rcases inj p q hlt hq with h | h <;> omega
  · intro x hx
    obtain ⟨p, hp, rfl⟩ := List.mem_map.1 hx
    rw [List.mem_range] at hp
    have h1 := rA p hp; have h3 := rB (l.length - 1 - p) (by omega)
    rw [List.mem_flatMap]
    exact ⟨_, List.mem_range.2 (by omega), List.mem_map.2 ⟨_, List.mem_range.2 (by omega), rfl⟩⟩

theorem rise_law2 (l : List Int) (hl : 1 < l.length) (hnd : l.Nodup) : 3 ≤ (riseS l).length + (riseS l.reverse).length := by
  have h := rise_law l (by intro e; rw [e] at hl; simp at hl) hnd
  obtain ⟨a, hae⟩ : ∃ a, a = (riseS l).length := ⟨_, rfl⟩
  obtain ⟨b, hbe⟩ : ∃ b, b = (riseS l.reverse).length := ⟨_, rfl⟩
  rw [← hae, ← hbe] at h ⊢
  rcases Nat.lt_or_ge (a + b) 3 with h3 | h3
  · have ha : a ≤ 2 := by omega
    have hb : b ≤ 2 := by omega
    have : a * b ≤ 1 := by
      rcases a with _ | _ | _ | a
      · simp
      · simp; omega
      · have : b = 0 := by omega
        subst this; simp
      · omega
    omega
  · exact h3
end AL
