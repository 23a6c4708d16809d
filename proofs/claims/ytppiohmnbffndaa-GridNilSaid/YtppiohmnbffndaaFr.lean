/- frames opened -/
import Derived.Test.YtppiohmnbffndaaMem
namespace Go.Proofs.Ytppiohmnbffndaa
namespace Mem
theorem frames106 {P : Act → Prop} (hP : ∀ u0 u1 u2 u3 u4 u5 u6 u7 u8 u9 u10 u11 u12 u13 u14 u15 u16 u17 u18 u19 u20 u21 u22 u23 u24 u25 u26 u27 u28 u29 u30 u31 u32 u33 u34 u35 u36 u37 u38 u39 u40 u41 u42 u43 u44 u45 u46 u47 u48 u49 u50 u51 u52 u53 u54 u55 u56 u57 u58 u59 u60 u61 u62 u63 u64 u65 u66 u67 u68 u69 u70 u71 u72 u73 u74 u75 u76 u77 u78 u79 u80 u81 u82 u83 u84 u85 u86 u87 u88 u89 u90 u91 u92 u93 u94 u95 u96 u97 u98 u99 u100 u101 u102 u103 u104 u105 : Value, P ⟨#[u0, u1, u2, u3, u4, u5, u6, u7, u8, u9, u10, u11, u12, u13, u14, u15, u16, u17, u18, u19, u20, u21, u22, u23, u24, u25, u26, u27, u28, u29, u30, u31, u32, u33, u34, u35, u36, u37, u38, u39, u40, u41, u42, u43, u44, u45, u46, u47, u48, u49, u50, u51, u52, u53, u54, u55, u56, u57, u58, u59, u60, u61, u62, u63, u64, u65, u66, u67, u68, u69, u70, u71, u72, u73, u74, u75, u76, u77, u78, u79, u80, u81, u82, u83, u84, u85, u86, u87, u88, u89, u90, u91, u92, u93, u94, u95, u96, u97, u98, u99, u100, u101, u102, u103, u104, u105], []⟩) : ∀ a : Act, a.tmps.size = 106 → a.defers = [] → P a := by
  intro a h1 h2
  obtain ⟨⟨t⟩, d⟩ := a
  simp only [List.size_toArray] at h1 h2
  subst h2
  obtain ⟨u0, t0, rfl, k0⟩ := cons_of (n := 105) h1
  obtain ⟨u1, t1, rfl, k1⟩ := cons_of (n := 104) k0
  obtain ⟨u2, t2, rfl, k2⟩ := cons_of (n := 103) k1
  obtain ⟨u3, t3, rfl, k3⟩ := cons_of (n := 102) k2
  obtain ⟨u4, t4, rfl, k4⟩ := cons_of (n := 101) k3
  obtain ⟨u5, t5, rfl, k5⟩ := cons_of (n := 100) k4
  obtain ⟨u6, t6, rfl, k6⟩ := cons_of (n := 99) k5
  obtain ⟨u7, t7, rfl, k7⟩ := cons_of (n := 98) k6
  obtain ⟨u8, t8, rfl, k8⟩ := cons_of (n := 97) k7
  obtain ⟨u9, t9, rfl, k9⟩ := cons_of (n := 96) k8
  obtain ⟨u10, t10, rfl, k10⟩ := cons_of (n := 95) k9
  obtain ⟨u11, t11, rfl, k11⟩ := cons_of (n := 94) k10
  obtain ⟨u12, t12, rfl, k12⟩ := cons_of (n := 93) k11
  obtain ⟨u13, t13, rfl, k13⟩ := cons_of (n := 92) k12
  obtain ⟨u14, t14, rfl, k14⟩ := cons_of (n := 91) k13
  obtain ⟨u15, t15, rfl, k15⟩ := cons_of (n := 90) k14
  obtain ⟨u16, t16, rfl, k16⟩ := cons_of (n := 89) k15
  obtain ⟨u17, t17, rfl, k17⟩ := cons_of (n := 88) k16
  obtain ⟨u18, t18, rfl, k18⟩ := cons_of (n := 87) k17
  obtain ⟨u19, t19, rfl, k19⟩ := cons_of (n := 86) k18
  obtain ⟨u20, t20, rfl, k20⟩ := cons_of (n := 85) k19
  obtain ⟨u21, t21, rfl, k21⟩ := cons_of (n := 84) k20
  obtain ⟨u22, t22, rfl, k22⟩ := cons_of (n := 83) k21
  obtain ⟨u23, t23, rfl, k23⟩ := cons_of (n := 82) k22
  obtain ⟨u24, t24, rfl, k24⟩ := cons_of (n := 81) k23
  obtain ⟨u25, t25, rfl, k25⟩ := cons_of (n := 80) k24
  obtain ⟨u26, t26, rfl, k26⟩ := cons_of (n := 79) k25
  obtain ⟨u27, t27, rfl, k27⟩ := cons_of (n := 78) k26
  obtain ⟨u28, t28, rfl, k28⟩ := cons_of (n := 77) k27
  obtain ⟨u29, t29, rfl, k29⟩ := cons_of (n := 76) k28
  obtain ⟨u30, t30, rfl, k30⟩ := cons_of (n := 75) k29
  obtain ⟨u31, t31, rfl, k31⟩ := cons_of (n := 74) k30
  obtain ⟨u32, t32, rfl, k32⟩ := cons_of (n := 73) k31
  obtain ⟨u33, t33, rfl, k33⟩ := cons_of (n := 72) k32
  obtain ⟨u34, t34, rfl, k34⟩ := cons_of (n := 71) k33
  obtain ⟨u35, t35, rfl, k35⟩ := cons_of (n := 70) k34
  obtain ⟨u36, t36, rfl, k36⟩ := cons_of (n := 69) k35
  obtain ⟨u37, t37, rfl, k37⟩ := cons_of (n := 68) k36
  obtain ⟨u38, t38, rfl, k38⟩ := cons_of (n := 67) k37
  obtain ⟨u39, t39, rfl, k39⟩ := cons_of (n := 66) k38
  obtain ⟨u40, t40, rfl, k40⟩ := cons_of (n := 65) k39
  obtain ⟨u41, t41, rfl, k41⟩ := cons_of (n := 64) k40
  obtain ⟨u42, t42, rfl, k42⟩ := cons_of (n := 63) k41
  obtain ⟨u43, t43, rfl, k43⟩ := cons_of (n := 62) k42
  obtain ⟨u44, t44, rfl, k44⟩ := cons_of (n := 61) k43
  obtain ⟨u45, t45, rfl, k45⟩ := cons_of (n := 60) k44
  obtain ⟨u46, t46, rfl, k46⟩ := cons_of (n := 59) k45
  obtain ⟨u47, t47, rfl, k47⟩ := cons_of (n := 58) k46
  obtain ⟨u48, t48, rfl, k48⟩ := cons_of (n := 57) k47
  obtain ⟨u49, t49, rfl, k49⟩ := cons_of (n := 56) k48
  obtain ⟨u50, t50, rfl, k50⟩ := cons_of (n := 55) k49
  obtain ⟨u51, t51, rfl, k51⟩ := cons_of (n := 54) k50
  obtain ⟨u52, t52, rfl, k52⟩ := cons_of (n := 53) k51
  obtain ⟨u53, t53, rfl, k53⟩ := cons_of (n := 52) k52
  obtain ⟨u54, t54, rfl, k54⟩ := cons_of (n := 51) k53
  obtain ⟨u55, t55, rfl, k55⟩ := cons_of (n := 50) k54
  obtain ⟨u56, t56, rfl, k56⟩ := cons_of (n := 49) k55
  obtain ⟨u57, t57, rfl, k57⟩ := cons_of (n := 48) k56
  obtain ⟨u58, t58, rfl, k58⟩ := cons_of (n := 47) k57
  obtain ⟨u59, t59, rfl, k59⟩ := cons_of (n := 46) k58
  obtain ⟨u60, t60, rfl, k60⟩ := cons_of (n := 45) k59
  obtain ⟨u61, t61, rfl, k61⟩ := cons_of (n := 44) k60
  obtain ⟨u62, t62, rfl, k62⟩ := cons_of (n := 43) k61
  obtain ⟨u63, t63, rfl, k63⟩ := cons_of (n := 42) k62
  obtain ⟨u64, t64, rfl, k64⟩ := cons_of (n := 41) k63
  obtain ⟨u65, t65, rfl, k65⟩ := cons_of (n := 40) k64
  obtain ⟨u66, t66, rfl, k66⟩ := cons_of (n := 39) k65
  obtain ⟨u67, t67, rfl, k67⟩ := cons_of (n := 38) k66
  obtain ⟨u68, t68, rfl, k68⟩ := cons_of (n := 37) k67
  obtain ⟨u69, t69, rfl, k69⟩ := cons_of (n := 36) k68
  obtain ⟨u70, t70, rfl, k70⟩ := cons_of (n := 35) k69
  obtain ⟨u71, t71, rfl, k71⟩ := cons_of (n := 34) k70
  obtain ⟨u72, t72, rfl, k72⟩ := cons_of (n := 33) k71
  obtain ⟨u73, t73, rfl, k73⟩ := cons_of (n := 32) k72
  obtain ⟨u74, t74, rfl, k74⟩ := cons_of (n := 31) k73
  obtain ⟨u75, t75, rfl, k75⟩ := cons_of (n := 30) k74
  obtain ⟨u76, t76, rfl, k76⟩ := cons_of (n := 29) k75
  obtain ⟨u77, t77, rfl, k77⟩ := cons_of (n := 28) k76
  obtain ⟨u78, t78, rfl, k78⟩ := cons_of (n := 27) k77
  obtain ⟨u79, t79, rfl, k79⟩ := cons_of (n := 26) k78
  obtain ⟨u80, t80, rfl, k80⟩ := cons_of (n := 25) k79
  obtain ⟨u81, t81, rfl, k81⟩ := cons_of (n := 24) k80
  obtain ⟨u82, t82, rfl, k82⟩ := cons_of (n := 23) k81
  obtain ⟨u83, t83, rfl, k83⟩ := cons_of (n := 22) k82
  obtain ⟨u84, t84, rfl, k84⟩ := cons_of (n := 21) k83
  obtain ⟨u85, t85, rfl, k85⟩ := cons_of (n := 20) k84
  obtain ⟨u86, t86, rfl, k86⟩ := cons_of (n := 19) k85
  obtain ⟨u87, t87, rfl, k87⟩ := cons_of (n := 18) k86
  obtain ⟨u88, t88, rfl, k88⟩ := cons_of (n := 17) k87
  obtain ⟨u89, t89, rfl, k89⟩ := cons_of (n := 16) k88
  obtain ⟨u90, t90, rfl, k90⟩ := cons_of (n := 15) k89
  obtain ⟨u91, t91, rfl, k91⟩ := cons_of (n := 14) k90
  obtain ⟨u92, t92, rfl, k92⟩ := cons_of (n := 13) k91
  obtain ⟨u93, t93, rfl, k93⟩ := cons_of (n := 12) k92
  obtain ⟨u94, t94, rfl, k94⟩ := cons_of (n := 11) k93
  obtain ⟨u95, t95, rfl, k95⟩ := cons_of (n := 10) k94
  obtain ⟨u96, t96, rfl, k96⟩ := cons_of (n := 9) k95
  obtain ⟨u97, t97, rfl, k97⟩ := cons_of (n := 8) k96
  obtain ⟨u98, t98, rfl, k98⟩ := cons_of (n := 7) k97
  obtain ⟨u99, t99, rfl, k99⟩ := cons_of (n := 6) k98
  obtain ⟨u100, t100, rfl, k100⟩ := cons_of (n := 5) k99
  obtain ⟨u101, t101, rfl, k101⟩ := cons_of (n := 4) k100
  obtain ⟨u102, t102, rfl, k102⟩ := cons_of (n := 3) k101
  obtain ⟨u103, t103, rfl, k103⟩ := cons_of (n := 2) k102
  obtain ⟨u104, t104, rfl, k104⟩ := cons_of (n := 1) k103
  obtain ⟨u105, t105, rfl, k105⟩ := cons_of (n := 0) k104
  obtain rfl := List.eq_nil_of_length_eq_zero k105
  exact hP _ _ _ _ _ _ _ _ _ _ _ _ _ _ _ _ _ _ _ _ _ _ _ _ _ _ _ _ _ _ _ _ _ _ _ _ _ _ _ _ _ _ _ _ _ _ _ _ _ _ _ _ _ _ _ _ _ _ _ _ _ _ _ _ _ _ _ _ _ _ _ _ _ _ _ _ _ _ _ _ _ _ _ _ _ _ _ _ _ _ _ _ _ _ _ _ _ _ _ _ _ _ _ _ _ _
theorem fr62 {a : Act} {l : List (Nat × Value)} (h : Fr a 62 l) : ∃ u0 u1 u2 u3 u4 u5 u6 u7 u8 u9 u10 u11 u12 u13 u14 u15 u16 u17 u18 u19 u20 u21 u22 u23 u24 u25 u26 u27 u28 u29 u30 u31 u32 u33 u34 u35 u36 u37 u38 u39 u40 u41 u42 u43 u44 u45 u46 u47 u48 u49 u50 u51 u52 u53 u54 u55 u56 u57 u58 u59 u60 u61 : Value, a = ⟨#[u0, u1, u2, u3, u4, u5, u6, u7, u8, u9, u10, u11, u12, u13, u14, u15, u16, u17, u18, u19, u20, u21, u22, u23, u24, u25, u26, u27, u28, u29, u30, u31, u32, u33, u34, u35, u36, u37, u38, u39, u40, u41, u42, u43, u44, u45, u46, u47, u48, u49, u50, u51, u52, u53, u54, u55, u56, u57, u58, u59, u60, u61], []⟩ := by
  obtain ⟨⟨t⟩, d⟩ := a
  obtain ⟨h1, h2, _⟩ := h
  simp only [List.size_toArray] at h1 h2
  subst h2
  obtain ⟨u0, t0, rfl, k0⟩ := cons_of (n := 61) h1
  obtain ⟨u1, t1, rfl, k1⟩ := cons_of (n := 60) k0
  obtain ⟨u2, t2, rfl, k2⟩ := cons_of (n := 59) k1
  obtain ⟨u3, t3, rfl, k3⟩ := cons_of (n := 58) k2
  obtain ⟨u4, t4, rfl, k4⟩ := cons_of (n := 57) k3
  obtain ⟨u5, t5, rfl, k5⟩ := cons_of (n := 56) k4
  obtain ⟨u6, t6, rfl, k6⟩ := cons_of (n := 55) k5
  obtain ⟨u7, t7, rfl, k7⟩ := cons_of (n := 54) k6
  obtain ⟨u8, t8, rfl, k8⟩ := cons_of (n := 53) k7
  obtain ⟨u9, t9, rfl, k9⟩ := cons_of (n := 52) k8
  obtain ⟨u10, t10, rfl, k10⟩ := cons_of (n := 51) k9
  obtain ⟨u11, t11, rfl, k11⟩ := cons_of (n := 50) k10
  obtain ⟨u12, t12, rfl, k12⟩ := cons_of (n := 49) k11
  obtain ⟨u13, t13, rfl, k13⟩ := cons_of (n := 48) k12
  obtain ⟨u14, t14, rfl, k14⟩ := cons_of (n := 47) k13
  obtain ⟨u15, t15, rfl, k15⟩ := cons_of (n := 46) k14
  obtain ⟨u16, t16, rfl, k16⟩ := cons_of (n := 45) k15
  obtain ⟨u17, t17, rfl, k17⟩ := cons_of (n := 44) k16
  obtain ⟨u18, t18, rfl, k18⟩ := cons_of (n := 43) k17
  obtain ⟨u19, t19, rfl, k19⟩ := cons_of (n := 42) k18
  obtain ⟨u20, t20, rfl, k20⟩ := cons_of (n := 41) k19
  obtain ⟨u21, t21, rfl, k21⟩ := cons_of (n := 40) k20
  obtain ⟨u22, t22, rfl, k22⟩ := cons_of (n := 39) k21
  obtain ⟨u23, t23, rfl, k23⟩ := cons_of (n := 38) k22
  obtain ⟨u24, t24, rfl, k24⟩ := cons_of (n := 37) k23
  obtain ⟨u25, t25, rfl, k25⟩ := cons_of (n := 36) k24
  obtain ⟨u26, t26, rfl, k26⟩ := cons_of (n := 35) k25
  obtain ⟨u27, t27, rfl, k27⟩ := cons_of (n := 34) k26
  obtain ⟨u28, t28, rfl, k28⟩ := cons_of (n := 33) k27
  obtain ⟨u29, t29, rfl, k29⟩ := cons_of (n := 32) k28
  obtain ⟨u30, t30, rfl, k30⟩ := cons_of (n := 31) k29
  obtain ⟨u31, t31, rfl, k31⟩ := cons_of (n := 30) k30
  obtain ⟨u32, t32, rfl, k32⟩ := cons_of (n := 29) k31
  obtain ⟨u33, t33, rfl, k33⟩ := cons_of (n := 28) k32
  obtain ⟨u34, t34, rfl, k34⟩ := cons_of (n := 27) k33
  obtain ⟨u35, t35, rfl, k35⟩ := cons_of (n := 26) k34
  obtain ⟨u36, t36, rfl, k36⟩ := cons_of (n := 25) k35
  obtain ⟨u37, t37, rfl, k37⟩ := cons_of (n := 24) k36
  obtain ⟨u38, t38, rfl, k38⟩ := cons_of (n := 23) k37
  obtain ⟨u39, t39, rfl, k39⟩ := cons_of (n := 22) k38
  obtain ⟨u40, t40, rfl, k40⟩ := cons_of (n := 21) k39
  obtain ⟨u41, t41, rfl, k41⟩ := cons_of (n := 20) k40
  obtain ⟨u42, t42, rfl, k42⟩ := cons_of (n := 19) k41
  obtain ⟨u43, t43, rfl, k43⟩ := cons_of (n := 18) k42
  obtain ⟨u44, t44, rfl, k44⟩ := cons_of (n := 17) k43
  obtain ⟨u45, t45, rfl, k45⟩ := cons_of (n := 16) k44
  obtain ⟨u46, t46, rfl, k46⟩ := cons_of (n := 15) k45
  obtain ⟨u47, t47, rfl, k47⟩ := cons_of (n := 14) k46
  obtain ⟨u48, t48, rfl, k48⟩ := cons_of (n := 13) k47
  obtain ⟨u49, t49, rfl, k49⟩ := cons_of (n := 12) k48
  obtain ⟨u50, t50, rfl, k50⟩ := cons_of (n := 11) k49
  obtain ⟨u51, t51, rfl, k51⟩ := cons_of (n := 10) k50
  obtain ⟨u52, t52, rfl, k52⟩ := cons_of (n := 9) k51
  obtain ⟨u53, t53, rfl, k53⟩ := cons_of (n := 8) k52
  obtain ⟨u54, t54, rfl, k54⟩ := cons_of (n := 7) k53
  obtain ⟨u55, t55, rfl, k55⟩ := cons_of (n := 6) k54
  obtain ⟨u56, t56, rfl, k56⟩ := cons_of (n := 5) k55
  obtain ⟨u57, t57, rfl, k57⟩ := cons_of (n := 4) k56
  obtain ⟨u58, t58, rfl, k58⟩ := cons_of (n := 3) k57
  obtain ⟨u59, t59, rfl, k59⟩ := cons_of (n := 2) k58
  obtain ⟨u60, t60, rfl, k60⟩ := cons_of (n := 1) k59
  obtain ⟨u61, t61, rfl, k61⟩ := cons_of (n := 0) k60
  obtain rfl := List.eq_nil_of_length_eq_zero k61
  exact ⟨_, _, _, _, _, _, _, _, _, _, _, _, _, _, _, _, _, _, _, _, _, _, _, _, _, _, _, _, _, _, _, _, _, _, _, _, _, _, _, _, _, _, _, _, _, _, _, _, _, _, _, _, _, _, _, _, _, _, _, _, _, _, rfl⟩
theorem fr53 {a : Act} {l : List (Nat × Value)} (h : Fr a 53 l) : ∃ u0 u1 u2 u3 u4 u5 u6 u7 u8 u9 u10 u11 u12 u13 u14 u15 u16 u17 u18 u19 u20 u21 u22 u23 u24 u25 u26 u27 u28 u29 u30 u31 u32 u33 u34 u35 u36 u37 u38 u39 u40 u41 u42 u43 u44 u45 u46 u47 u48 u49 u50 u51 u52 : Value, a = ⟨#[u0, u1, u2, u3, u4, u5, u6, u7, u8, u9, u10, u11, u12, u13, u14, u15, u16, u17, u18, u19, u20, u21, u22, u23, u24, u25, u26, u27, u28, u29, u30, u31, u32, u33, u34, u35, u36, u37, u38, u39, u40, u41, u42, u43, u44, u45, u46, u47, u48, u49, u50, u51, u52], []⟩ := by
  obtain ⟨⟨t⟩, d⟩ := a
  obtain ⟨h1, h2, _⟩ := h
  simp only [List.size_toArray] at h1 h2
  subst h2
  obtain ⟨u0, t0, rfl, k0⟩ := cons_of (n := 52) h1
  obtain ⟨u1, t1, rfl, k1⟩ := cons_of (n := 51) k0
  obtain ⟨u2, t2, rfl, k2⟩ := cons_of (n := 50) k1
  obtain ⟨u3, t3, rfl, k3⟩ := cons_of (n := 49) k2
  obtain ⟨u4, t4, rfl, k4⟩ := cons_of (n := 48) k3
  obtain ⟨u5, t5, rfl, k5⟩ := cons_of (n := 47) k4
  obtain ⟨u6, t6, rfl, k6⟩ := cons_of (n := 46) k5
  obtain ⟨u7, t7, rfl, k7⟩ := cons_of (n := 45) k6
  obtain ⟨u8, t8, rfl, k8⟩ := cons_of (n := 44) k7
  obtain ⟨u9, t9, rfl, k9⟩ := cons_of (n := 43) k8
  obtain ⟨u10, t10, rfl, k10⟩ := cons_of (n := 42) k9
  obtain ⟨u11, t11, rfl, k11⟩ := cons_of (n := 41) k10
  obtain ⟨u12, t12, rfl, k12⟩ := cons_of (n := 40) k11
  obtain ⟨u13, t13, rfl, k13⟩ := cons_of (n := 39) k12
  obtain ⟨u14, t14, rfl, k14⟩ := cons_of (n := 38) k13
  obtain ⟨u15, t15, rfl, k15⟩ := cons_of (n := 37) k14
  obtain ⟨u16, t16, rfl, k16⟩ := cons_of (n := 36) k15
  obtain ⟨u17, t17, rfl, k17⟩ := cons_of (n := 35) k16
  obtain ⟨u18, t18, rfl, k18⟩ := cons_of (n := 34) k17
  obtain ⟨u19, t19, rfl, k19⟩ := cons_of (n := 33) k18
  obtain ⟨u20, t20, rfl, k20⟩ := cons_of (n := 32) k19
  obtain ⟨u21, t21, rfl, k21⟩ := cons_of (n := 31) k20
  obtain ⟨u22, t22, rfl, k22⟩ := cons_of (n := 30) k21
  obtain ⟨u23, t23, rfl, k23⟩ := cons_of (n := 29) k22
  obtain ⟨u24, t24, rfl, k24⟩ := cons_of (n := 28) k23
  obtain ⟨u25, t25, rfl, k25⟩ := cons_of (n := 27) k24
  obtain ⟨u26, t26, rfl, k26⟩ := cons_of (n := 26) k25
  obtain ⟨u27, t27, rfl, k27⟩ := cons_of (n := 25) k26
  obtain ⟨u28, t28, rfl, k28⟩ := cons_of (n := 24) k27
  obtain ⟨u29, t29, rfl, k29⟩ := cons_of (n := 23) k28
  obtain ⟨u30, t30, rfl, k30⟩ := cons_of (n := 22) k29
  obtain ⟨u31, t31, rfl, k31⟩ := cons_of (n := 21) k30
  obtain ⟨u32, t32, rfl, k32⟩ := cons_of (n := 20) k31
  obtain ⟨u33, t33, rfl, k33⟩ := cons_of (n := 19) k32
  obtain ⟨u34, t34, rfl, k34⟩ := cons_of (n := 18) k33
  obtain ⟨u35, t35, rfl, k35⟩ := cons_of (n := 17) k34
  obtain ⟨u36, t36, rfl, k36⟩ := cons_of (n := 16) k35
  obtain ⟨u37, t37, rfl, k37⟩ := cons_of (n := 15) k36
  obtain ⟨u38, t38, rfl, k38⟩ := cons_of (n := 14) k37
  obtain ⟨u39, t39, rfl, k39⟩ := cons_of (n := 13) k38
  obtain ⟨u40, t40, rfl, k40⟩ := cons_of (n := 12) k39
  obtain ⟨u41, t41, rfl, k41⟩ := cons_of (n := 11) k40
  obtain ⟨u42, t42, rfl, k42⟩ := cons_of (n := 10) k41
  obtain ⟨u43, t43, rfl, k43⟩ := cons_of (n := 9) k42
  obtain ⟨u44, t44, rfl, k44⟩ := cons_of (n := 8) k43
  obtain ⟨u45, t45, rfl, k45⟩ := cons_of (n := 7) k44
  obtain ⟨u46, t46, rfl, k46⟩ := cons_of (n := 6) k45
  obtain ⟨u47, t47, rfl, k47⟩ := cons_of (n := 5) k46
  obtain ⟨u48, t48, rfl, k48⟩ := cons_of (n := 4) k47
  obtain ⟨u49, t49, rfl, k49⟩ := cons_of (n := 3) k48
  obtain ⟨u50, t50, rfl, k50⟩ := cons_of (n := 2) k49
  obtain ⟨u51, t51, rfl, k51⟩ := cons_of (n := 1) k50
  obtain ⟨u52, t52, rfl, k52⟩ := cons_of (n := 0) k51
  obtain rfl := List.eq_nil_of_length_eq_zero k52
  exact ⟨_, _, _, _, _, _, _, _, _, _, _, _, _, _, _, _, _, _, _, _, _, _, _, _, _, _, _, _, _, _, _, _, _, _, _, _, _, _, _, _, _, _, _, _, _, _, _, _, _, _, _, _, _, rfl⟩
end Mem
end Go.Proofs.Ytppiohmnbffndaa
