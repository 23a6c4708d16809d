/-
frames opened
GsB: between, Cover: what they hand out.
HeldIn: a region that draws its order, inside a fence: what yields in every world that meets S may be taken first.
Fr181: a frame of 181 slots.
-/
import Derived.Test.YtdbpfbokfmpgcaaZaaMemIterTreeAHeldGrA
import Derived.Test.YtdbpfbokfmpgcaaZamGsA
import Derived.Test.YtdbpfbokfmpgcaaZanIterN
import Derived.Test.YtdbpfbokfmpgcaaZabGrB
import Derived.Test.YtdbpfbokfmpgcaaZadGsM
import Derived.OrdersHeld
import Derived.OrdersIn
namespace Go.Proofs.Ytdbpfbokfmpgcaa
namespace Mem
theorem frames106 {P : Act → Prop} (hP : ∀ u0 u1 u2 u3 u4 u5 u6 u7 u8 u9 u10 u11 u12 u13 u14 u15 u16 u17 u18 u19 u20 u21 u22 u23 u24 u25 u26 u27 u28 u29 u30 u31 u32 u33 u34 u35 u36 u37 u38 u39 u40 u41 u42 u43 u44 u45 u46 u47 u48 u49 u50 u51 u52 u53 u54 u55 u56 u57 u58 u59 u60 u61 u62 u63 u64 u65 u66 u67 u68 u69 u70 u71 u72 u73 u74 u75 u76 u77 u78 u79 u80 u81 u82 u83 u84 u85 u86 u87 u88 u89 u90 u91 u92 u93 u94 u95 u96 u97 u98 u99 u100 u101 u102 u103 u104 u105 : Value, P ⟨#[u0, u1, u2, u3, u4, u5, u6, u7, u8, u9, u10, u11, u12, u13, u14, u15, u16, u17, u18, u19, u20, u21, u22, u23, u24, u25, u26, u27, u28, u29, u30, u31, u32, u33, u34, u35, u36, u37, u38, u39, u40, u41, u42, u43, u44, u45, u46, u47, u48, u49, u50, u51, u52, u53, u54, u55, u56, u57, u58, u59, u60, u61, u62, u63, u64, u65, u66, u67, u68, u69, u70, u71, u72, u73, u74, u75, u76, u77, u78, u79, u80, u81, u82, u83, u84, u85, u86, u87, u88, u89, u90, u91, u92, u93, u94, u95, u96, u97, u98, u99, u100, u101, u102, u103, u104, u105], []⟩) : ∀ a : Act, a.tmps.size = 106 → a.defers = [] → P a := by
  intro a h1 h2
  obtain ⟨⟨t⟩, d⟩ := a
  simp only [List.size_toArray] at h1 h2
  subst h2
  obtain ⟨u0, t0, rfl, k0⟩ := cons_of (n := 105) h1
  obtain ⟨u1, t1, rfl, k1⟩ := cons_of (n := 104) k0
  obtain ⟨u2, t2, rfl, k2⟩ := cons_of (n := 103) k1
  obtain ⟨u3, t3, rfl, k3⟩ := cons_of (n := 102) k2
  obtain ⟨u4, t4, rfl, k4⟩ := cons_of (n := 101) k3
  obtain ⟨u5, t5, rfl, k5⟩ := cons_of (n := 100) k4
  obtain ⟨u6, t6, rfl, k6⟩ := cons_of (n := 99) k5
  obtain ⟨u7, t7, rfl, k7⟩ := cons_of (n := 98) k6
  obtain ⟨u8, t8, rfl, k8⟩ := cons_of (n := 97) k7
  obtain ⟨u9, t9, rfl, k9⟩ := cons_of (n := 96) k8
  obtain ⟨u10, t10, rfl, k10⟩ := cons_of (n := 95) k9
  obtain ⟨u11, t11, rfl, k11⟩ := cons_of (n := 94) k10
  obtain ⟨u12, t12, rfl, k12⟩ := cons_of (n := 93) k11
  obtain ⟨u13, t13, rfl, k13⟩ := cons_of (n := 92) k12
  obtain ⟨u14, t14, rfl, k14⟩ := cons_of (n := 91) k13
  obtain ⟨u15, t15, rfl, k15⟩ := cons_of (n := 90) k14
  obtain ⟨u16, t16, rfl, k16⟩ := cons_of (n := 89) k15
  obtain ⟨u17, t17, rfl, k17⟩ := cons_of (n := 88) k16
  obtain ⟨u18, t18, rfl, k18⟩ := cons_of (n := 87) k17
  obtain ⟨u19, t19, rfl, k19⟩ := cons_of (n := 86) k18
  obtain ⟨u20, t20, rfl, k20⟩ := cons_of (n := 85) k19
  obtain ⟨u21, t21, rfl, k21⟩ := cons_of (n := 84) k20
  obtain ⟨u22, t22, rfl, k22⟩ := cons_of (n := 83) k21
  obtain ⟨u23, t23, rfl, k23⟩ := cons_of (n := 82) k22
  obtain ⟨u24, t24, rfl, k24⟩ := cons_of (n := 81) k23
  obtain ⟨u25, t25, rfl, k25⟩ := cons_of (n := 80) k24
  obtain ⟨u26, t26, rfl, k26⟩ := cons_of (n := 79) k25
  obtain ⟨u27, t27, rfl, k27⟩ := cons_of (n := 78) k26
  obtain ⟨u28, t28, rfl, k28⟩ := cons_of (n := 77) k27
  obtain ⟨u29, t29, rfl, k29⟩ := cons_of (n := 76) k28
  obtain ⟨u30, t30, rfl, k30⟩ := cons_of (n := 75) k29
  obtain ⟨u31, t31, rfl, k31⟩ := cons_of (n := 74) k30
  obtain ⟨u32, t32, rfl, k32⟩ := cons_of (n := 73) k31
  obtain ⟨u33, t33, rfl, k33⟩ := cons_of (n := 72) k32
  obtain ⟨u34, t34, rfl, k34⟩ := cons_of (n := 71) k33
  obtain ⟨u35, t35, rfl, k35⟩ := cons_of (n := 70) k34
  obtain ⟨u36, t36, rfl, k36⟩ := cons_of (n := 69) k35
  obtain ⟨u37, t37, rfl, k37⟩ := cons_of (n := 68) k36
  obtain ⟨u38, t38, rfl, k38⟩ := cons_of (n := 67) k37
  obtain ⟨u39, t39, rfl, k39⟩ := cons_of (n := 66) k38
  obtain ⟨u40, t40, rfl, k40⟩ := cons_of (n := 65) k39
  obtain ⟨u41, t41, rfl, k41⟩ := cons_of (n := 64) k40
  obtain ⟨u42, t42, rfl, k42⟩ := cons_of (n := 63) k41
  obtain ⟨u43, t43, rfl, k43⟩ := cons_of (n := 62) k42
  obtain ⟨u44, t44, rfl, k44⟩ := cons_of (n := 61) k43
  obtain ⟨u45, t45, rfl, k45⟩ := cons_of (n := 60) k44
  obtain ⟨u46, t46, rfl, k46⟩ := cons_of (n := 59) k45
  obtain ⟨u47, t47, rfl, k47⟩ := cons_of (n := 58) k46
  obtain ⟨u48, t48, rfl, k48⟩ := cons_of (n := 57) k47
  obtain ⟨u49, t49, rfl, k49⟩ := cons_of (n := 56) k48
  obtain ⟨u50, t50, rfl, k50⟩ := cons_of (n := 55) k49
  obtain ⟨u51, t51, rfl, k51⟩ := cons_of (n := 54) k50
  obtain ⟨u52, t52, rfl, k52⟩ := cons_of (n := 53) k51
  obtain ⟨u53, t53, rfl, k53⟩ := cons_of (n := 52) k52
  obtain ⟨u54, t54, rfl, k54⟩ := cons_of (n := 51) k53
  obtain ⟨u55, t55, rfl, k55⟩ := cons_of (n := 50) k54
  obtain ⟨u56, t56, rfl, k56⟩ := cons_of (n := 49) k55
  obtain ⟨u57, t57, rfl, k57⟩ := cons_of (n := 48) k56
  obtain ⟨u58, t58, rfl, k58⟩ := cons_of (n := 47) k57
  obtain ⟨u59, t59, rfl, k59⟩ := cons_of (n := 46) k58
  obtain ⟨u60, t60, rfl, k60⟩ := cons_of (n := 45) k59
  obtain ⟨u61, t61, rfl, k61⟩ := cons_of (n := 44) k60
  obtain ⟨u62, t62, rfl, k62⟩ := cons_of (n := 43) k61
  obtain ⟨u63, t63, rfl, k63⟩ := cons_of (n := 42) k62
  obtain ⟨u64, t64, rfl, k64⟩ := cons_of (n := 41) k63
  obtain ⟨u65, t65, rfl, k65⟩ := cons_of (n := 40) k64
  obtain ⟨u66, t66, rfl, k66⟩ := cons_of (n := 39) k65
  obtain ⟨u67, t67, rfl, k67⟩ := cons_of (n := 38) k66
  obtain ⟨u68, t68, rfl, k68⟩ := cons_of (n := 37) k67
  obtain ⟨u69, t69, rfl, k69⟩ := cons_of (n := 36) k68
  obtain ⟨u70, t70, rfl, k70⟩ := cons_of (n := 35) k69
  obtain ⟨u71, t71, rfl, k71⟩ := cons_of (n := 34) k70
  obtain ⟨u72, t72, rfl, k72⟩ := cons_of (n := 33) k71
  obtain ⟨u73, t73, rfl, k73⟩ := cons_of (n := 32) k72
  obtain ⟨u74, t74, rfl, k74⟩ := cons_of (n := 31) k73
  obtain ⟨u75, t75, rfl, k75⟩ := cons_of (n := 30) k74
  obtain ⟨u76, t76, rfl, k76⟩ := cons_of (n := 29) k75
  obtain ⟨u77, t77, rfl, k77⟩ := cons_of (n := 28) k76
  obtain ⟨u78, t78, rfl, k78⟩ := cons_of (n := 27) k77
  obtain ⟨u79, t79, rfl, k79⟩ := cons_of (n := 26) k78
  obtain ⟨u80, t80, rfl, k80⟩ := cons_of (n := 25) k79
  obtain ⟨u81, t81, rfl, k81⟩ := cons_of (n := 24) k80
  obtain ⟨u82, t82, rfl, k82⟩ := cons_of (n := 23) k81
  obtain ⟨u83, t83, rfl, k83⟩ := cons_of (n := 22) k82
  obtain ⟨u84, t84, rfl, k84⟩ := cons_of (n := 21) k83
  obtain ⟨u85, t85, rfl, k85⟩ := cons_of (n := 20) k84
  obtain ⟨u86, t86, rfl, k86⟩ := cons_of (n := 19) k85
  obtain ⟨u87, t87, rfl, k87⟩ := cons_of (n := 18) k86
  obtain ⟨u88, t88, rfl, k88⟩ := cons_of (n := 17) k87
  obtain ⟨u89, t89, rfl, k89⟩ := cons_of (n := 16) k88
  obtain ⟨u90, t90, rfl, k90⟩ := cons_of (n := 15) k89
  obtain ⟨u91, t91, rfl, k91⟩ := cons_of (n := 14) k90
  obtain ⟨u92, t92, rfl, k92⟩ := cons_of (n := 13) k91
  obtain ⟨u93, t93, rfl, k93⟩ := cons_of (n := 12) k92
  obtain ⟨u94, t94, rfl, k94⟩ := cons_of (n := 11) k93
  obtain ⟨u95, t95, rfl, k95⟩ := cons_of (n := 10) k94
  obtain ⟨u96, t96, rfl, k96⟩ := cons_of (n := 9) k95
  obtain ⟨u97, t97, rfl, k97⟩ := cons_of (n := 8) k96
  obtain ⟨u98, t98, rfl, k98⟩ := cons_of (n := 7) k97
  obtain ⟨u99, t99, rfl, k99⟩ := cons_of (n := 6) k98
  obtain ⟨u100, t100, rfl, k100⟩ := cons_of (n := 5) k99
  obtain ⟨u101, t101, rfl, k101⟩ := cons_of (n := 4) k100
  obtain ⟨u102, t102, rfl, k102⟩ := cons_of (n := 3) k101
  obtain ⟨u103, t103, rfl, k103⟩ := cons_of (n := 2) k102
  obtain ⟨u104, t104, rfl, k104⟩ := cons_of (n := 1) k103
  obtain ⟨u105, t105, rfl, k105⟩ := cons_of (n := 0) k104
  obtain rfl := List.eq_nil_of_length_eq_zero k105
  exact hP _ _ _ _ _ _ _ _ _ _ _ _ _ _ _ _ _ _ _ _ _ _ _ _ _ _ _ _ _ _ _ _ _ _ _ _ _ _ _ _ _ _ _ _ _ _ _ _ _ _ _ _ _ _ _ _ _ _ _ _ _ _ _ _ _ _ _ _ _ _ _ _ _ _ _ _ _ _ _ _ _ _ _ _ _ _ _ _ _ _ _ _ _ _ _ _ _ _ _ _ _ _ _ _ _ _
theorem fr62 {a : Act} {l : List (Nat × Value)} (h : Fr a 62 l) : ∃ u0 u1 u2 u3 u4 u5 u6 u7 u8 u9 u10 u11 u12 u13 u14 u15 u16 u17 u18 u19 u20 u21 u22 u23 u24 u25 u26 u27 u28 u29 u30 u31 u32 u33 u34 u35 u36 u37 u38 u39 u40 u41 u42 u43 u44 u45 u46 u47 u48 u49 u50 u51 u52 u53 u54 u55 u56 u57 u58 u59 u60 u61 : Value, a = ⟨#[u0, u1, u2, u3, u4, u5, u6, u7, u8, u9, u10, u11, u12, u13, u14, u15, u16, u17, u18, u19, u20, u21, u22, u23, u24, u25, u26, u27, u28, u29, u30, u31, u32, u33, u34, u35, u36, u37, u38, u39, u40, u41, u42, u43, u44, u45, u46, u47, u48, u49, u50, u51, u52, u53, u54, u55, u56, u57, u58, u59, u60, u61], []⟩ := by
  obtain ⟨⟨t⟩, d⟩ := a
  obtain ⟨h1, h2, _⟩ := h
  simp only [List.size_toArray] at h1 h2
  subst h2
  obtain ⟨u0, t0, rfl, k0⟩ := cons_of (n := 61) h1
  obtain ⟨u1, t1, rfl, k1⟩ := cons_of (n := 60) k0
  obtain ⟨u2, t2, rfl, k2⟩ := cons_of (n := 59) k1
  obtain ⟨u3, t3, rfl, k3⟩ := cons_of (n := 58) k2
  obtain ⟨u4, t4, rfl, k4⟩ := cons_of (n := 57) k3
  obtain ⟨u5, t5, rfl, k5⟩ := cons_of (n := 56) k4
  obtain ⟨u6, t6, rfl, k6⟩ := cons_of (n := 55) k5
  obtain ⟨u7, t7, rfl, k7⟩ := cons_of (n := 54) k6
  obtain ⟨u8, t8, rfl, k8⟩ := cons_of (n := 53) k7
  obtain ⟨u9, t9, rfl, k9⟩ := cons_of (n := 52) k8
  obtain ⟨u10, t10, rfl, k10⟩ := cons_of (n := 51) k9
  obtain ⟨u11, t11, rfl, k11⟩ := cons_of (n := 50) k10
  obtain ⟨u12, t12, rfl, k12⟩ := cons_of (n := 49) k11
  obtain ⟨u13, t13, rfl, k13⟩ := cons_of (n := 48) k12
  obtain ⟨u14, t14, rfl, k14⟩ := cons_of (n := 47) k13
  obtain ⟨u15, t15, rfl, k15⟩ := cons_of (n := 46) k14
  obtain ⟨u16, t16, rfl, k16⟩ := cons_of (n := 45) k15
  obtain ⟨u17, t17, rfl, k17⟩ := cons_of (n := 44) k16
  obtain ⟨u18, t18, rfl, k18⟩ := cons_of (n := 43) k17
  obtain ⟨u19, t19, rfl, k19⟩ := cons_of (n := 42) k18
  obtain ⟨u20, t20, rfl, k20⟩ := cons_of (n := 41) k19
  obtain ⟨u21, t21, rfl, k21⟩ := cons_of (n := 40) k20
  obtain ⟨u22, t22, rfl, k22⟩ := cons_of (n := 39) k21
  obtain ⟨u23, t23, rfl, k23⟩ := cons_of (n := 38) k22
  obtain ⟨u24, t24, rfl, k24⟩ := cons_of (n := 37) k23
  obtain ⟨u25, t25, rfl, k25⟩ := cons_of (n := 36) k24
  obtain ⟨u26, t26, rfl, k26⟩ := cons_of (n := 35) k25
  obtain ⟨u27, t27, rfl, k27⟩ := cons_of (n := 34) k26
  obtain ⟨u28, t28, rfl, k28⟩ := cons_of (n := 33) k27
  obtain ⟨u29, t29, rfl, k29⟩ := cons_of (n := 32) k28
  obtain ⟨u30, t30, rfl, k30⟩ := cons_of (n := 31) k29
  obtain ⟨u31, t31, rfl, k31⟩ := cons_of (n := 30) k30
  obtain ⟨u32, t32, rfl, k32⟩ := cons_of (n := 29) k31
  obtain ⟨u33, t33, rfl, k33⟩ := cons_of (n := 28) k32
  obtain ⟨u34, t34, rfl, k34⟩ := cons_of (n := 27) k33
  obtain ⟨u35, t35, rfl, k35⟩ := cons_of (n := 26) k34
  obtain ⟨u36, t36, rfl, k36⟩ := cons_of (n := 25) k35
  obtain ⟨u37, t37, rfl, k37⟩ := cons_of (n := 24) k36
  obtain ⟨u38, t38, rfl, k38⟩ := cons_of (n := 23) k37
  obtain ⟨u39, t39, rfl, k39⟩ := cons_of (n := 22) k38
  obtain ⟨u40, t40, rfl, k40⟩ := cons_of (n := 21) k39
  obtain ⟨u41, t41, rfl, k41⟩ := cons_of (n := 20) k40
  obtain ⟨u42, t42, rfl, k42⟩ := cons_of (n := 19) k41
  obtain ⟨u43, t43, rfl, k43⟩ := cons_of (n := 18) k42
  obtain ⟨u44, t44, rfl, k44⟩ := cons_of (n := 17) k43
  obtain ⟨u45, t45, rfl, k45⟩ := cons_of (n := 16) k44
  obtain ⟨u46, t46, rfl, k46⟩ := cons_of (n := 15) k45
  obtain ⟨u47, t47, rfl, k47⟩ := cons_of (n := 14) k46
  obtain ⟨u48, t48, rfl, k48⟩ := cons_of (n := 13) k47
  obtain ⟨u49, t49, rfl, k49⟩ := cons_of (n := 12) k48
  obtain ⟨u50, t50, rfl, k50⟩ := cons_of (n := 11) k49
  obtain ⟨u51, t51, rfl, k51⟩ := cons_of (n := 10) k50
  obtain ⟨u52, t52, rfl, k52⟩ := cons_of (n := 9) k51
  obtain ⟨u53, t53, rfl, k53⟩ := cons_of (n := 8) k52
  obtain ⟨u54, t54, rfl, k54⟩ := cons_of (n := 7) k53
  obtain ⟨u55, t55, rfl, k55⟩ := cons_of (n := 6) k54
  obtain ⟨u56, t56, rfl, k56⟩ := cons_of (n := 5) k55
  obtain ⟨u57, t57, rfl, k57⟩ := cons_of (n := 4) k56
  obtain ⟨u58, t58, rfl, k58⟩ := cons_of (n := 3) k57
  obtain ⟨u59, t59, rfl, k59⟩ := cons_of (n := 2) k58
  obtain ⟨u60, t60, rfl, k60⟩ := cons_of (n := 1) k59
  obtain ⟨u61, t61, rfl, k61⟩ := cons_of (n := 0) k60
  obtain rfl := List.eq_nil_of_length_eq_zero k61
  exact ⟨_, _, _, _, _, _, _, _, _, _, _, _, _, _, _, _, _, _, _, _, _, _, _, _, _, _, _, _, _, _, _, _, _, _, _, _, _, _, _, _, _, _, _, _, _, _, _, _, _, _, _, _, _, _, _, _, _, _, _, _, _, _, rfl⟩
theorem fr53 {a : Act} {l : List (Nat × Value)} (h : Fr a 53 l) : ∃ u0 u1 u2 u3 u4 u5 u6 u7 u8 u9 u10 u11 u12 u13 u14 u15 u16 u17 u18 u19 u20 u21 u22 u23 u24 u25 u26 u27 u28 u29 u30 u31 u32 u33 u34 u35 u36 u37 u38 u39 u40 u41 u42 u43 u44 u45 u46 u47 u48 u49 u50 u51 u52 : Value, a = ⟨#[u0, u1, u2, u3, u4, u5, u6, u7, u8, u9, u10, u11, u12, u13, u14, u15, u16, u17, u18, u19, u20, u21, u22, u23, u24, u25, u26, u27, u28, u29, u30, u31, u32, u33, u34, u35, u36, u37, u38, u39, u40, u41, u42, u43, u44, u45, u46, u47, u48, u49, u50, u51, u52], []⟩ := by
  obtain ⟨⟨t⟩, d⟩ := a
  obtain ⟨h1, h2, _⟩ := h
  simp only [List.size_toArray] at h1 h2
  subst h2
  obtain ⟨u0, t0, rfl, k0⟩ := cons_of (n := 52) h1
  obtain ⟨u1, t1, rfl, k1⟩ := cons_of (n := 51) k0
  obtain ⟨u2, t2, rfl, k2⟩ := cons_of (n := 50) k1
  obtain ⟨u3, t3, rfl, k3⟩ := cons_of (n := 49) k2
  obtain ⟨u4, t4, rfl, k4⟩ := cons_of (n := 48) k3
  obtain ⟨u5, t5, rfl, k5⟩ := cons_of (n := 47) k4
  obtain ⟨u6, t6, rfl, k6⟩ := cons_of (n := 46) k5
  obtain ⟨u7, t7, rfl, k7⟩ := cons_of (n := 45) k6
  obtain ⟨u8, t8, rfl, k8⟩ := cons_of (n := 44) k7
  obtain ⟨u9, t9, rfl, k9⟩ := cons_of (n := 43) k8
  obtain ⟨u10, t10, rfl, k10⟩ := cons_of (n := 42) k9
  obtain ⟨u11, t11, rfl, k11⟩ := cons_of (n := 41) k10
  obtain ⟨u12, t12, rfl, k12⟩ := cons_of (n := 40) k11
  obtain ⟨u13, t13, rfl, k13⟩ := cons_of (n := 39) k12
  obtain ⟨u14, t14, rfl, k14⟩ := cons_of (n := 38) k13
  obtain ⟨u15, t15, rfl, k15⟩ := cons_of (n := 37) k14
  obtain ⟨u16, t16, rfl, k16⟩ := cons_of (n := 36) k15
  obtain ⟨u17, t17, rfl, k17⟩ := cons_of (n := 35) k16
  obtain ⟨u18, t18, rfl, k18⟩ := cons_of (n := 34) k17
  obtain ⟨u19, t19, rfl, k19⟩ := cons_of (n := 33) k18
  obtain ⟨u20, t20, rfl, k20⟩ := cons_of (n := 32) k19
  obtain ⟨u21, t21, rfl, k21⟩ := cons_of (n := 31) k20
  obtain ⟨u22, t22, rfl, k22⟩ := cons_of (n := 30) k21
  obtain ⟨u23, t23, rfl, k23⟩ := cons_of (n := 29) k22
  obtain ⟨u24, t24, rfl, k24⟩ := cons_of (n := 28) k23
  obtain ⟨u25, t25, rfl, k25⟩ := cons_of (n := 27) k24
  obtain ⟨u26, t26, rfl, k26⟩ := cons_of (n := 26) k25
  obtain ⟨u27, t27, rfl, k27⟩ := cons_of (n := 25) k26
  obtain ⟨u28, t28, rfl, k28⟩ := cons_of (n := 24) k27
  obtain ⟨u29, t29, rfl, k29⟩ := cons_of (n := 23) k28
  obtain ⟨u30, t30, rfl, k30⟩ := cons_of (n := 22) k29
  obtain ⟨u31, t31, rfl, k31⟩ := cons_of (n := 21) k30
  obtain ⟨u32, t32, rfl, k32⟩ := cons_of (n := 20) k31
  obtain ⟨u33, t33, rfl, k33⟩ := cons_of (n := 19) k32
  obtain ⟨u34, t34, rfl, k34⟩ := cons_of (n := 18) k33
  obtain ⟨u35, t35, rfl, k35⟩ := cons_of (n := 17) k34
  obtain ⟨u36, t36, rfl, k36⟩ := cons_of (n := 16) k35
  obtain ⟨u37, t37, rfl, k37⟩ := cons_of (n := 15) k36
  obtain ⟨u38, t38, rfl, k38⟩ := cons_of (n := 14) k37
  obtain ⟨u39, t39, rfl, k39⟩ := cons_of (n := 13) k38
  obtain ⟨u40, t40, rfl, k40⟩ := cons_of (n := 12) k39
  obtain ⟨u41, t41, rfl, k41⟩ := cons_of (n := 11) k40
  obtain ⟨u42, t42, rfl, k42⟩ := cons_of (n := 10) k41
  obtain ⟨u43, t43, rfl, k43⟩ := cons_of (n := 9) k42
  obtain ⟨u44, t44, rfl, k44⟩ := cons_of (n := 8) k43
  obtain ⟨u45, t45, rfl, k45⟩ := cons_of (n := 7) k44
  obtain ⟨u46, t46, rfl, k46⟩ := cons_of (n := 6) k45
  obtain ⟨u47, t47, rfl, k47⟩ := cons_of (n := 5) k46
  obtain ⟨u48, t48, rfl, k48⟩ := cons_of (n := 4) k47
  obtain ⟨u49, t49, rfl, k49⟩ := cons_of (n := 3) k48
  obtain ⟨u50, t50, rfl, k50⟩ := cons_of (n := 2) k49
  obtain ⟨u51, t51, rfl, k51⟩ := cons_of (n := 1) k50
  obtain ⟨u52, t52, rfl, k52⟩ := cons_of (n := 0) k51
  obtain rfl := List.eq_nil_of_length_eq_zero k52
  exact ⟨_, _, _, _, _, _, _, _, _, _, _, _, _, _, _, _, _, _, _, _, _, _, _, _, _, _, _, _, _, _, _, _, _, _, _, _, _, _, _, _, _, _, _, _, _, _, _, _, _, _, _, _, _, rfl⟩
end Mem
end Go.Proofs.Ytdbpfbokfmpgcaa
namespace Go.Proofs.Ytdbpfbokfmpgcaa
open Go.RowKit Go.Shelf
set_option linter.unusedVariables false
set_option linter.unusedSimpArgs false
attribute [local go_sem] Oper.semAt_some
namespace Gs
open Mem Gr
theorem upto_get {a b : Int} {i : Nat} (h : i < (upto a b).length) : (upto a b)[i] = a + (i : Int) := by simp [upto]
theorem between_t (a b : Int) (w : World) : Calls Try.prog 51 #[.int .i32 a, .int .i32 b] w fun e w' => e = .returned (.func (.func 59) #[] #[.pointer (some ⟨w.heap.size, 0, none⟩), .pointer (some ⟨w.heap.size + 1, 0, none⟩)]) ∧ (w.alloc (.cells #[.int .i32 a] 21)).alloc (.cells #[.int .i32 b] 21) = w' := by
  go_enter Try.func51, Try.ntmps51
  go_wp2
  go_ret
  exact ⟨rfl, rfl⟩
set_option maxRecDepth 100000 in
theorem between1_gives (n B1 B2 : Nat) (a b : Int) (W : World) (ha : -1073741824 ≤ a) (hb : b ≤ 1073741824) (h1 : Blk W B1 21 [.int .i32 a]) (h2 : Blk W B2 21 [.int .i32 b]) :
    Gives Try.prog n 59 #[.pointer (some ⟨B1, 0, none⟩), .pointer (some ⟨B2, 0, none⟩)] (fun x : Int => #[.int .i32 x]) (upto a b) W (fun S => ¬ S B1 ∧ ¬ S B2) := by
  intro l J Jx S hA hJ hJx hin hY h0
  refine callsIn_of_wp Try.func59 rfl trivial ?_ rfl
  simp only [Try.ntmps59, List.size_toArray, List.length_cons, List.length_nil, Nat.reduceAdd, Nat.reduceSub, Array.replicate_succ, Array.replicate_zero, List.push_toArray, List.append_toArray, List.nil_append, List.cons_append]
  have HY := Lib.hid hY; clear hY
  have c1 := h1.cell 0
  have c2 := h2.cell 0
  simp only [List.getElem?_cons_zero] at c1 c2
  obtain ⟨xs, hxs⟩ : ∃ xs, xs = upto a b := ⟨_, rfl⟩
  have hl : xs.length = (b - a + 1).toNat := by rw [hxs, upto_len]
  have hg : ∀ i (h : i < xs.length), xs[i] = a + (i : Int) := by subst hxs; exact fun i h => upto_get h
  rw [← hxs] at HY ⊢
  clear hxs
  have HG := Lib.hid hg; clear hg
  gi_wp2
  gi_loopw [4] (fun p wr => ∃ (i : Nat) (Sk : Nat → Prop), i ≤ xs.length ∧ p = .int .i32 (a + (i : Int)) ∧ J (xs.take i) Sk wr ∧ Inb Sk wr ∧ Foot S Sk W wr) (fun p _ => (b + 1 - intOf p).toNat)
  case atStart => exact ⟨0, S, Nat.zero_le _, by simp, by simpa using h0, hin, Foot.refl _ _⟩
  case round =>
    obtain ⟨i, Sk, hi, rfl, hj, hink, hf⟩ := hrel
    have c2' : wr.cell? ⟨B2, 0, none⟩ = some (.int .i32 b) := hf.1.cell (p := ⟨B2, 0, none⟩) c2 hA.2
    by_cases hlt : i < xs.length
    · have hle : a + (i : Int) ≤ b := by omega
      have hsplit : xs = xs.take i ++ xs[i] :: xs.drop (i + 1) := by rw [← List.drop_eq_getElem_cons hlt, List.take_append_drop]
      have htk : xs.take (i + 1) = xs.take i ++ [xs[i]] := (List.take_append_getElem hlt).symm
      obtain ⟨fn, tmps, assign, body, hy, hR⟩ := HY.out (xs.take i) xs[i] _ Sk wr hsplit hj hink
      rw [HG.out i hlt] at hy
      have hw : IntKind.i32.wrap (a + (i : Int) + 1) = a + (i : Int) + 1 := IntWalk.i32_in _ (by omega)
      have HT := Lib.hid htk; clear htk hsplit
      have HJ := Lib.hid hj; clear hj h0
      gi_wp2
      refine ⟨fun h => by simp [Fence.wide] at h, hR.mono ?_⟩
      rintro e W3 ⟨S3, hf3, hin3, (⟨rfl, hj3⟩ | ⟨rfl, hj3⟩)⟩
      · gi_wp2
        go_roundw
        case rel => exact ⟨i + 1, S3, by omega, by congr 1; omega, by rw [HT.out]; exact hj3, hin3, hf.trans hf3⟩
        case measure => simp [intOf]; omega
      · gi_wp2
        refine bodyPost_ret (results_none rfl _ _ _) rfl ?_
        exact ⟨⟨_, rfl⟩, S3, hf.trans hf3, hin3, .inr ⟨xs.take i ++ [xs[i]], ⟨xs.drop (i + 1), by simp⟩, hj3⟩⟩
    · obtain rfl : i = xs.length := by omega
      have hle : ¬ a + (xs.length : Int) ≤ b := by omega
      gi_wp2
      go_end0
      exact ⟨⟨_, rfl⟩, Sk, hf, hink, .inl (by simpa using hj)⟩
end Gs
end Go.Proofs.Ytdbpfbokfmpgcaa
namespace Go.Proofs.Ytdbpfbokfmpgcaa
open Go.RowKit
set_option linter.unusedVariables false
namespace Mem
section
variable {F : Fence} {n : Nat} {P : Program} {ops : Array Oper} {Q : Exit → Act → World → Prop} {md : Region.Mode} {S : World → Prop}
def noDefer (ops : Array Oper) : Bool := ops.toList.all fun o => match o.op with
  | .defer _ => false
  | _ => true
theorem noDefer_at {ops : Array Oper} (h : noDefer ops = true) {j : Nat} {o : Oper} (ho : ops[j]? = some o) : ∀ c, o.op ≠ .defer c := by
  intro c hc
  have hm : o ∈ ops.toList := Array.mem_toList_iff.2 (Array.mem_of_getElem? ho)
  have := (List.all_eq_true.1 h) o hm
  rw [hc] at this
  cases this
def HeldYield (F : Fence) (P : Program) (ops : Array Oper) (S : World → Prop) (o : Oper) (v : Value) (a : Act) : Prop := YieldsIf P ops S o v a ∧ ∀ w f, o.about P w a.eval = some f → F.fn f
theorem HeldYield.wpOpIn {i : Nat} {o : Oper} {v : Value} {a : Act} (hnd : noDefer ops = true) (hi : ops[i]? = some o) (hy : HeldYield F P ops S o v a)
    {K : Act → World → Prop} {w : World} (hS : S w) (h : K (a.put o.dst v) w) : wpOpIn F n P ops Q i K a w := by
  unfold Go.wpOpIn
  simp only [hi]
  have hab : ∀ f, o.about P w a.eval = some f → F.fn f := hy.2 w
  rcases hy.1 with ⟨hw, hv⟩ | ⟨hw, rfl⟩
  · simp only [hw, if_true, Oper.wpIn, Oper.semAt_eq F.round a.eval o (noDefer_at hnd hi), hv w hS, Oper.uponIn]; exact ⟨hab, h⟩
  · simp only [hw, Bool.false_eq_true, if_false]; exact ⟨hab, h⟩
theorem HeldYield.of_same {o : Oper} {v : Value} {a a' : Act} (hy : HeldYield F P ops S o v a) (he : execOp a'.eval o = execOp a.eval o)
    (hw : Region.wanted o (yielded ops a'.tmps) = Region.wanted o (yielded ops a.tmps)) (hb : ∀ w, o.about P w a'.eval = o.about P w a.eval) : HeldYield F P ops S o v a' :=
  ⟨hy.1.of_same he hw, fun w f => by rw [hb w]; exact hy.2 w f⟩
theorem held_put {j : Nat} {oi oj : Oper} {v : Value} (hnd : noDefer ops = true) (hj : ops[j]? = some oj) (hap : oi.apart ops oj = true)
    (hsi : ∀ cs b, oi.op ≠ .select cs b) (hsj : ∀ cs b, oj.op ≠ .select cs b)
    (hQ : ∀ c a w, Q (.panic c) (a.put oi.dst v) w → Q (.panic c) a w) {K : Act → World → Prop} {a : Act} {w : World}
    (hy : HeldYield F P ops S oi v a) (h : wpOpIn F n P ops Q j K (a.put oi.dst v) w) :
    wpOpIn F n P ops Q j (fun a' w' => HeldYield F P ops S oi v a' ∧ K (a'.put oi.dst v) w') a w := by
  obtain ⟨h1, h2, h3⟩ := Oper.apart_spec hap
  have hnj := noDefer_at hnd hj
  have keep : ∀ (a : Act), HeldYield F P ops S oi v a → ∀ u, HeldYield F P ops S oi v (a.put oj.dst u) := fun a hy u =>
    hy.of_same (execOp_put oi hsi a oj.dst u h3) (wanted_put oi a oj.dst u h3) (fun w => about_put oi w a oj.dst u h3)
  have keepD : ∀ d, HeldYield F P ops S oi v { a with defers := d :: a.defers } := fun d => hy.of_same rfl rfl (fun _ => rfl)
  unfold wpOpIn at *
  simp only [hj] at *
  rw [wanted_put oj a oi.dst v h1, about_put oj w a oi.dst v h1] at h
  split
  · rename_i hw
    simp only [hw, if_true] at h
    unfold Oper.wpIn at *
    rw [about_put oj w a oi.dst v h1] at h
    refine ⟨h.1, ?_⟩
    have h := h.2
    rw [Oper.semAt_eq _ _ _ hnj, execOp_put oj hsj a oi.dst v h1] at h
    rw [Oper.semAt_eq _ _ _ hnj]
    generalize (execOp a.eval oj).run P w = r at *
    cases r with
    | ok x w' =>
      cases x <;> simp only [Oper.uponIn] at h ⊢
      case value u => exact ⟨keep a hy u, by rw [← Act.put_comm a v u h2]; exact h⟩
      case skip => exact ⟨keep a hy _, by rw [← Act.put_comm a v undef h2]; exact h⟩
      case defer d =>
        refine ⟨keep _ (keepD d) _, ?_⟩
        rw [← Act.put_comm _ v undef h2, ← Act.put_defers]
        exact h
      case enter f args =>
        refine ⟨h.1, CallsIn.mono h.2 fun e w'' he => ?_⟩
        cases e with
        | returned u => exact ⟨keep a hy u, by rw [← Act.put_comm a v u h2]; exact he⟩
        | panicked c => exact hQ _ _ _ he
        | outgrown => exact he
      case row row args => exact ⟨h.1, RowsIn.mono h.2 fun u w'' he => ⟨keep a hy u, by rw [← Act.put_comm a v u h2]; exact he⟩⟩
      case round l f tmps assign body =>
        refine ⟨h.1, RoundIn.mono h.2 fun e w'' he => ?_⟩
        cases e with
        | returned u => exact ⟨keep a hy u, by rw [← Act.put_comm a v u h2]; exact he⟩
        | panicked c => exact hQ _ _ _ he
        | outgrown => exact he
    | halt x w' =>
      cases x <;> simp only [Oper.uponIn] at h ⊢
      case panic u => exact hQ _ _ _ h
  · rename_i hw
    simp only [hw] at h
    exact ⟨h.1, keep a hy _, by rw [← Act.put_comm a v undef h2]; exact h.2⟩
def anyHeld (F : Fence) (n : Nat) (P : Program) (md : Region.Mode) (ops : Array Oper) (Q : Exit → Act → World → Prop) (S : World → Prop) : Nat → Array Bool → Act → World → Prop
  | 0, listed, a, w => Region.ready md ops listed = [] ∧ Q .normal a w
  | fuel + 1, listed, a, w =>
    (Region.ready md ops listed = [] → Q .normal a w) ∧
    ∀ i ∈ Region.ready md ops listed, wpOpIn F n P ops Q i (fun a' w' => S w' ∧ anyHeld F n P md ops Q S fuel (listed.setIfInBounds i true) a' w') a w
theorem any_of_held : ∀ (fuel : Nat) (listed : Array Bool) (a : Act) (w : World), anyHeld F n P md ops Q S fuel listed a w → wpAnyIn F n P md ops Q fuel listed a w
  | 0, _, _, _, h => h
  | fuel + 1, _, _, _, h => ⟨h.1, fun i hi => wpOpIn_mono (fun a' w' h' => any_of_held fuel _ a' w' h'.2) (h.2 i hi)⟩
theorem anyHeld_first {i : Nat} {oi : Oper} {v : Value} (hnd : noDefer ops = true) (hi : ops[i]? = some oi) (hsel : ∀ (j : Nat) (o : Oper) cs b, ops[j]? = some o → o.op ≠ .select cs b)
    (hQ : ∀ c a w, Q (.panic c) (a.put oi.dst v) w → Q (.panic c) a w) :
    ∀ (fuel : Nat) (listed : Array Bool) (a : Act) (w : World),
      (∀ j oj, ops[j]? = some oj → j ≠ i → listed.getD j true = false → (∀ e ∈ oj.after, Region.binds md e = true → e.on ≠ i) → oi.apart ops oj = true) →
      i ∈ Region.ready md ops listed → HeldYield F P ops S oi v a → S w →
      anyHeld F n P md ops Q S fuel (listed.setIfInBounds i true) (a.put oi.dst v) w → anyHeld F n P md ops Q S (fuel + 1) listed a w := by
  intro fuel
  induction fuel with
  | zero =>
    intro listed a w _ hr hy hS H
    refine ⟨fun h => (by rw [h] at hr; cases hr), fun j hj => ?_⟩
    by_cases hji : j = i
    · subst hji; exact hy.wpOpIn hnd hi hS ⟨hS, H⟩
    · have := ready_mono hj hji
      rw [H.1] at this
      cases this
  | succ fuel ih =>
    intro listed a w hfree hr hy hS H
    refine ⟨fun h => (by rw [h] at hr; cases hr), fun j hj => ?_⟩
    by_cases hji : j = i
    · subst hji; exact hy.wpOpIn hnd hi hS ⟨hS, H⟩
    · have h1 := H.2 j (ready_mono hj hji)
      obtain ⟨hjun, oj, hoj, hall⟩ := mem_ready.1 hj
      have hnot : ∀ e ∈ oj.after, Region.binds md e = true → e.on ≠ i := fun e he hb heq => by
        have h1 := hall e he hb
        have h0 := (mem_ready.1 hr).1
        rw [heq] at h1
        rcases Nat.lt_or_ge i listed.size with h' | h'
        · simp [h'] at h0 h1; rw [h0] at h1; cases h1
        · simp [Array.getElem?_eq_none h'] at h1
      have h2 := held_put hnd hoj (hfree j oj hoj hji hjun hnot) (fun cs b => hsel i oi cs b hi) (fun cs b => hsel j oj cs b hoj) hQ hy h1
      have hfree' : ∀ k ok, ops[k]? = some ok → k ≠ i → (listed.setIfInBounds j true).getD k true = false →
          (∀ e ∈ ok.after, Region.binds md e = true → e.on ≠ i) → oi.apart ops ok = true := fun k ok hk hki hun hno => by
        refine hfree k ok hk hki ?_ hno
        by_cases hjk : j = k
        · subst hjk; exact hjun
        · rw [getD_set_ne true hjk] at hun; exact hun
      refine wpOpIn_mono (fun a' w' h3 => ⟨h3.2.1, ih (listed.setIfInBounds j true) a' w' hfree' (ready_mono hr (Ne.symm hji)) h3.1 h3.2.1 ?_⟩) h2
      rw [Array.setIfInBounds_comm _ _ hji]
      exact h3.2.2
theorem anyHeld_take (i : Nat) {oi : Oper} {v : Value} {fuel : Nat} {listed : Array Bool} {a : Act} {w : World} (hnd : noDefer ops = true) (hi : ops[i]? = some oi)
    (hs : Region.noSelect ops = true) (hf : Region.free md ops listed i = true) (hr : (Region.ready md ops listed).contains i = true)
    (hQ : ∀ c a w, Q (.panic c) (a.put oi.dst v) w → Q (.panic c) a w) (hy : HeldYield F P ops S oi v a) (hS : S w)
    (h : anyHeld F n P md ops Q S fuel (listed.setIfInBounds i true) (a.put oi.dst v) w) : anyHeld F n P md ops Q S (fuel + 1) listed a w :=
  anyHeld_first hnd hi (Region.noSelect_spec hs) hQ fuel listed a w (Region.free_spec hi hf) (by simpa using hr) hy hS h
theorem anyHeld_one (i : Nat) {o : Oper} {fuel : Nat} {listed : Array Bool} {a : Act} {w : World} (hr : Region.ready md ops listed = [i]) (ho : ops[i]? = some o) (hw : Region.wanted o (yielded ops a.tmps) = true)
    (h : ∀ K' : Act → World → Prop, (∀ a' w', S w' → anyHeld F n P md ops Q S fuel (listed.setIfInBounds i true) a' w' → K' a' w') → Oper.wpIn F n P o a w K' Q) : anyHeld F n P md ops Q S (fuel + 1) listed a w := by
  refine ⟨fun h0 => (by rw [hr] at h0; cases h0), fun j hj => ?_⟩
  rw [hr] at hj
  obtain rfl : j = i := by simpa using hj
  unfold wpOpIn
  rw [ho]
  simp only [hw, if_true]
  exact h _ fun a' w' hS h' => ⟨hS, h'⟩
theorem anyHeld_two (i j : Nat) {oi oj : Oper} {fuel : Nat} {listed : Array Bool} {a : Act} {w : World} (hr : Region.ready md ops listed = [i, j]) (hoi : ops[i]? = some oi) (hwi : Region.wanted oi (yielded ops a.tmps) = true) (hoj : ops[j]? = some oj) (hwj : Region.wanted oj (yielded ops a.tmps) = true)
    (h : ∀ K' : Act → World → Prop, (∀ a' w', S w' → anyHeld F n P md ops Q S fuel (listed.setIfInBounds i true) a' w' → K' a' w') → Oper.wpIn F n P oi a w K' Q)
    (h2 : ∀ K' : Act → World → Prop, (∀ a' w', S w' → anyHeld F n P md ops Q S fuel (listed.setIfInBounds j true) a' w' → K' a' w') → Oper.wpIn F n P oj a w K' Q) : anyHeld F n P md ops Q S (fuel + 1) listed a w := by
  refine ⟨fun h0 => (by rw [hr] at h0; cases h0), fun k hk => ?_⟩
  rw [hr] at hk
  simp only [List.mem_cons, List.not_mem_nil, or_false] at hk
  rcases hk with rfl | rfl
  · unfold wpOpIn
    rw [hoi]
    simp only [hwi, if_true]
    exact h _ fun a' w' hS h' => ⟨hS, h'⟩
  · unfold wpOpIn
    rw [hoj]
    simp only [hwj, if_true]
    exact h2 _ fun a' w' hS h' => ⟨hS, h'⟩
theorem anyHeld_done {listed : Array Bool} {a : Act} {w : World} (hr : Region.ready md ops listed = []) (h : Q .normal a w) :
    ∀ fuel, anyHeld F n P md ops Q S fuel listed a w
  | 0 => ⟨hr, h⟩
  | _ + 1 => ⟨fun _ => h, by rw [hr]; simp⟩
theorem region_heldIn (S : World → Prop) {id : Nat} {a : Act} {w : World} (hm : P.follows .mixedOrders = true)
    (h : anyHeld F n P .any ops Q S ops.size (Array.replicate ops.size false) a w.drew) : (Code.region id ops true).wpIn F n P Q a w :=
  wpIn_region_any hm (any_of_held _ _ _ _ h)
end
end Mem
end Go.Proofs.Ytdbpfbokfmpgcaa
namespace Go.Proofs.Ytdbpfbokfmpgcaa
open Go.RowKit
set_option linter.unusedVariables false
namespace Mem
theorem unroll (t : List Value) (n : Nat) (h : t.length = n) : t = (List.range n).map (fun i => t.getD i undef) := by
  apply List.ext_getElem
  · simp [h]
  · intro i h1 h2
    simp [h1]
set_option maxHeartbeats 2000000 in
set_option maxRecDepth 100000 in
theorem frames181 {P : Act → Prop} (hP : ∀ u0 u1 u2 u3 u4 u5 u6 u7 u8 u9 u10 u11 u12 u13 u14 u15 u16 u17 u18 u19 u20 u21 u22 u23 u24 u25 u26 u27 u28 u29 u30 u31 u32 u33 u34 u35 u36 u37 u38 u39 u40 u41 u42 u43 u44 u45 u46 u47 u48 u49 u50 u51 u52 u53 u54 u55 u56 u57 u58 u59 u60 u61 u62 u63 u64 u65 u66 u67 u68 u69 u70 u71 u72 u73 u74 u75 u76 u77 u78 u79 u80 u81 u82 u83 u84 u85 u86 u87 u88 u89 u90 u91 u92 u93 u94 u95 u96 u97 u98 u99 u100 u101 u102 u103 u104 u105 u106 u107 u108 u109 u110 u111 u112 u113 u114 u115 u116 u117 u118 u119 u120 u121 u122 u123 u124 u125 u126 u127 u128 u129 u130 u131 u132 u133 u134 u135 u136 u137 u138 u139 u140 u141 u142 u143 u144 u145 u146 u147 u148 u149 u150 u151 u152 u153 u154 u155 u156 u157 u158 u159 u160 u161 u162 u163 u164 u165 u166 u167 u168 u169 u170 u171 u172 u173 u174 u175 u176 u177 u178 u179 u180 : Value, P ⟨#[u0, u1, u2, u3, u4, u5, u6, u7, u8, u9, u10, u11, u12, u13, u14, u15, u16, u17, u18, u19, u20, u21, u22, u23, u24, u25, u26, u27, u28, u29, u30, u31, u32, u33, u34, u35, u36, u37, u38, u39, u40, u41, u42, u43, u44, u45, u46, u47, u48, u49, u50, u51, u52, u53, u54, u55, u56, u57, u58, u59, u60, u61, u62, u63, u64, u65, u66, u67, u68, u69, u70, u71, u72, u73, u74, u75, u76, u77, u78, u79, u80, u81, u82, u83, u84, u85, u86, u87, u88, u89, u90, u91, u92, u93, u94, u95, u96, u97, u98, u99, u100, u101, u102, u103, u104, u105, u106, u107, u108, u109, u110, u111, u112, u113, u114, u115, u116, u117, u118, u119, u120, u121, u122, u123, u124, u125, u126, u127, u128, u129, u130, u131, u132, u133, u134, u135, u136, u137, u138, u139, u140, u141, u142, u143, u144, u145, u146, u147, u148, u149, u150, u151, u152, u153, u154, u155, u156, u157, u158, u159, u160, u161, u162, u163, u164, u165, u166, u167, u168, u169, u170, u171, u172, u173, u174, u175, u176, u177, u178, u179, u180], []⟩) : ∀ a : Act, a.tmps.size = 181 → a.defers = [] → P a := by
  rintro ⟨⟨t⟩, d⟩ h1 h2
  simp only [List.size_toArray] at h1 h2
  subst h2
  have h := unroll t 181 h1
  have e : (List.range 181).map (fun i => t.getD i undef) = [t.getD 0 undef, t.getD 1 undef, t.getD 2 undef, t.getD 3 undef, t.getD 4 undef, t.getD 5 undef, t.getD 6 undef, t.getD 7 undef, t.getD 8 undef, t.getD 9 undef, t.getD 10 undef, t.getD 11 undef, t.getD 12 undef, t.getD 13 undef, t.getD 14 undef, t.getD 15 undef, t.getD 16 undef, t.getD 17 undef, t.getD 18 undef, t.getD 19 undef, t.getD 20 undef, t.getD 21 undef, t.getD 22 undef, t.getD 23 undef, t.getD 24 undef, t.getD 25 undef, t.getD 26 undef, t.getD 27 undef, t.getD 28 undef, t.getD 29 undef, t.getD 30 undef, t.getD 31 undef, t.getD 32 undef, t.getD 33 undef, t.getD 34 undef, t.getD 35 undef, t.getD 36 undef, t.getD 37 undef, t.getD 38 undef, t.getD 39 undef, t.getD 40 undef, t.getD 41 undef, t.getD 42 undef, t.getD 43 undef, t.getD 44 undef, t.getD 45 undef, t.getD 46 undef, t.getD 47 undef, t.getD 48 undef, t.getD 49 undef, t.getD 50 undef, t.getD 51 undef, t.getD 52 undef, t.getD 53 undef, t.getD 54 undef, t.getD 55 undef, t.getD 56 undef, t.getD 57 undef, t.getD 58 undef, t.getD 59 undef, t.getD 60 undef, t.getD 61 undef, t.getD 62 undef, t.getD 63 undef, t.getD 64 undef, t.getD 65 undef, t.getD 66 undef, t.getD 67 undef, t.getD 68 undef, t.getD 69 undef, t.getD 70 undef, t.getD 71 undef, t.getD 72 undef, t.getD 73 undef, t.getD 74 undef, t.getD 75 undef, t.getD 76 undef, t.getD 77 undef, t.getD 78 undef, t.getD 79 undef, t.getD 80 undef, t.getD 81 undef, t.getD 82 undef, t.getD 83 undef, t.getD 84 undef, t.getD 85 undef, t.getD 86 undef, t.getD 87 undef, t.getD 88 undef, t.getD 89 undef, t.getD 90 undef, t.getD 91 undef, t.getD 92 undef, t.getD 93 undef, t.getD 94 undef, t.getD 95 undef, t.getD 96 undef, t.getD 97 undef, t.getD 98 undef, t.getD 99 undef, t.getD 100 undef, t.getD 101 undef, t.getD 102 undef, t.getD 103 undef, t.getD 104 undef, t.getD 105 undef, t.getD 106 undef, t.getD 107 undef, t.getD 108 undef, t.getD 109 undef, t.getD 110 undef, t.getD 111 undef, t.getD 112 undef, t.getD 113 undef, t.getD 114 undef, t.getD 115 undef, t.getD 116 undef, t.getD 117 undef, t.getD 118 undef, t.getD 119 undef, t.getD 120 undef, t.getD 121 undef, t.getD 122 undef, t.getD 123 undef, t.getD 124 undef, t.getD 125 undef, t.getD 126 undef, t.getD 127 undef, t.getD 128 undef, t.getD 129 undef, t.getD 130 undef, t.getD 131 undef, t.getD 132 undef, t.getD 133 undef, t.getD 134 undef, t.getD 135 undef, t.getD 136 undef, t.getD 137 undef, t.getD 138 undef, t.getD 139 undef, t.getD 140 undef, t.getD 141 undef, t.getD 142 undef, t.getD 143 undef, t.getD 144 undef, t.getD 145 undef, t.getD 146 undef, t.getD 147 undef, t.getD 148 undef, t.getD 149 undef, t.getD 150 undef, t.getD 151 undef, t.getD 152 undef, t.getD 153 undef, t.getD 154 undef, t.getD 155 undef, t.getD 156 undef, t.getD 157 undef, t.getD 158 undef, t.getD 159 undef, t.getD 160 undef, t.getD 161 undef, t.getD 162 undef, t.getD 163 undef, t.getD 164 undef, t.getD 165 undef, t.getD 166 undef, t.getD 167 undef, t.getD 168 undef, t.getD 169 undef, t.getD 170 undef, t.getD 171 undef, t.getD 172 undef, t.getD 173 undef, t.getD 174 undef, t.getD 175 undef, t.getD 176 undef, t.getD 177 undef, t.getD 178 undef, t.getD 179 undef, t.getD 180 undef] := rfl
  exact Eq.mpr (congrArg (fun l : List Value => P ⟨⟨l⟩, []⟩) (h.trans e)) (hP (t.getD 0 undef) (t.getD 1 undef) (t.getD 2 undef) (t.getD 3 undef) (t.getD 4 undef) (t.getD 5 undef) (t.getD 6 undef) (t.getD 7 undef) (t.getD 8 undef) (t.getD 9 undef) (t.getD 10 undef) (t.getD 11 undef) (t.getD 12 undef) (t.getD 13 undef) (t.getD 14 undef) (t.getD 15 undef) (t.getD 16 undef) (t.getD 17 undef) (t.getD 18 undef) (t.getD 19 undef) (t.getD 20 undef) (t.getD 21 undef) (t.getD 22 undef) (t.getD 23 undef) (t.getD 24 undef) (t.getD 25 undef) (t.getD 26 undef) (t.getD 27 undef) (t.getD 28 undef) (t.getD 29 undef) (t.getD 30 undef) (t.getD 31 undef) (t.getD 32 undef) (t.getD 33 undef) (t.getD 34 undef) (t.getD 35 undef) (t.getD 36 undef) (t.getD 37 undef) (t.getD 38 undef) (t.getD 39 undef) (t.getD 40 undef) (t.getD 41 undef) (t.getD 42 undef) (t.getD 43 undef) (t.getD 44 undef) (t.getD 45 undef) (t.getD 46 undef) (t.getD 47 undef) (t.getD 48 undef) (t.getD 49 undef) (t.getD 50 undef) (t.getD 51 undef) (t.getD 52 undef) (t.getD 53 undef) (t.getD 54 undef) (t.getD 55 undef) (t.getD 56 undef) (t.getD 57 undef) (t.getD 58 undef) (t.getD 59 undef) (t.getD 60 undef) (t.getD 61 undef) (t.getD 62 undef) (t.getD 63 undef) (t.getD 64 undef) (t.getD 65 undef) (t.getD 66 undef) (t.getD 67 undef) (t.getD 68 undef) (t.getD 69 undef) (t.getD 70 undef) (t.getD 71 undef) (t.getD 72 undef) (t.getD 73 undef) (t.getD 74 undef) (t.getD 75 undef) (t.getD 76 undef) (t.getD 77 undef) (t.getD 78 undef) (t.getD 79 undef) (t.getD 80 undef) (t.getD 81 undef) (t.getD 82 undef) (t.getD 83 undef) (t.getD 84 undef) (t.getD 85 undef) (t.getD 86 undef) (t.getD 87 undef) (t.getD 88 undef) (t.getD 89 undef) (t.getD 90 undef) (t.getD 91 undef) (t.getD 92 undef) (t.getD 93 undef) (t.getD 94 undef) (t.getD 95 undef) (t.getD 96 undef) (t.getD 97 undef) (t.getD 98 undef) (t.getD 99 undef) (t.getD 100 undef) (t.getD 101 undef) (t.getD 102 undef) (t.getD 103 undef) (t.getD 104 undef) (t.getD 105 undef) (t.getD 106 undef) (t.getD 107 undef) (t.getD 108 undef) (t.getD 109 undef) (t.getD 110 undef) (t.getD 111 undef) (t.getD 112 undef) (t.getD 113 undef) (t.getD 114 undef) (t.getD 115 undef) (t.getD 116 undef) (t.getD 117 undef) (t.getD 118 undef) (t.getD 119 undef) (t.getD 120 undef) (t.getD 121 undef) (t.getD 122 undef) (t.getD 123 undef) (t.getD 124 undef) (t.getD 125 undef) (t.getD 126 undef) (t.getD 127 undef) (t.getD 128 undef) (t.getD 129 undef) (t.getD 130 undef) (t.getD 131 undef) (t.getD 132 undef) (t.getD 133 undef) (t.getD 134 undef) (t.getD 135 undef) (t.getD 136 undef) (t.getD 137 undef) (t.getD 138 undef) (t.getD 139 undef) (t.getD 140 undef) (t.getD 141 undef) (t.getD 142 undef) (t.getD 143 undef) (t.getD 144 undef) (t.getD 145 undef) (t.getD 146 undef) (t.getD 147 undef) (t.getD 148 undef) (t.getD 149 undef) (t.getD 150 undef) (t.getD 151 undef) (t.getD 152 undef) (t.getD 153 undef) (t.getD 154 undef) (t.getD 155 undef) (t.getD 156 undef) (t.getD 157 undef) (t.getD 158 undef) (t.getD 159 undef) (t.getD 160 undef) (t.getD 161 undef) (t.getD 162 undef) (t.getD 163 undef) (t.getD 164 undef) (t.getD 165 undef) (t.getD 166 undef) (t.getD 167 undef) (t.getD 168 undef) (t.getD 169 undef) (t.getD 170 undef) (t.getD 171 undef) (t.getD 172 undef) (t.getD 173 undef) (t.getD 174 undef) (t.getD 175 undef) (t.getD 176 undef) (t.getD 177 undef) (t.getD 178 undef) (t.getD 179 undef) (t.getD 180 undef))
end Mem
end Go.Proofs.Ytdbpfbokfmpgcaa
