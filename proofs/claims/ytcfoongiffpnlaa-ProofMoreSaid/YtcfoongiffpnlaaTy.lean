/-
  THE TYPES OF THIS PROGRAM, as the value machine uses them. Printed by types.py; each row is the kernel's.
-/
import Derived.Test.YtcfoongiffpnlaaRows
import Derived.Test.YtcfoongiffpnlaaVa
namespace Go.Proofs.Ytcfoongiffpnlaa
theorem tabOk : TabOk Try.prog (tyOf Try.prog) := tyOf_ok _
theorem ty1 : tyOf Try.prog 1 = some ⟨Try.t1.desc, 1, 8, [.v .nilFunc]⟩ := by kernel_rfl
theorem ty2 : tyOf Try.prog 2 = some ⟨.int .i64, 1, 8, [.v (.int .i64 0)]⟩ := by kernel_rfl
theorem ty3 : tyOf Try.prog 3 = some ⟨.int .i64, 1, 8, [.v (.int .i64 0)]⟩ := by kernel_rfl
theorem ty4 : tyOf Try.prog 4 = some ⟨.bool, 1, 1, [.v (.bool false)]⟩ := by kernel_rfl
theorem ty5 : tyOf Try.prog 5 = some ⟨.int .u8, 1, 1, [.v (.int .u8 0)]⟩ := by kernel_rfl
theorem ty6 : tyOf Try.prog 6 = some ⟨.int .u8, 1, 1, [.v (.int .u8 0)]⟩ := by kernel_rfl
theorem ty7 : tyOf Try.prog 7 = some ⟨Try.t7.desc, 4, 24, [.v (.int .i64 0), .v (.int .i64 0), .v (.bool false), .v (.int .u8 0)]⟩ := by kernel_rfl
theorem ag7 : isAggB Try.t7.desc = true := by kernel_rfl
theorem fa7_0 (k o : Nat) : vfieldAddr (tyOf Try.prog) 7 0 (.ptr k o) = some (.ptr k (o + 0)) := by kernel_rfl
theorem fc7_0 (cs : List MV) (o : Nat) : vfieldAddr (tyOf Try.prog) 7 0 (.cptr cs o) = some (.cptr cs (o + 0)) := by kernel_rfl
theorem fa7_1 (k o : Nat) : vfieldAddr (tyOf Try.prog) 7 1 (.ptr k o) = some (.ptr k (o + 1)) := by kernel_rfl
theorem fc7_1 (cs : List MV) (o : Nat) : vfieldAddr (tyOf Try.prog) 7 1 (.cptr cs o) = some (.cptr cs (o + 1)) := by kernel_rfl
theorem fa7_2 (k o : Nat) : vfieldAddr (tyOf Try.prog) 7 2 (.ptr k o) = some (.ptr k (o + 2)) := by kernel_rfl
theorem fc7_2 (cs : List MV) (o : Nat) : vfieldAddr (tyOf Try.prog) 7 2 (.cptr cs o) = some (.cptr cs (o + 2)) := by kernel_rfl
theorem fa7_3 (k o : Nat) : vfieldAddr (tyOf Try.prog) 7 3 (.ptr k o) = some (.ptr k (o + 3)) := by kernel_rfl
theorem fc7_3 (cs : List MV) (o : Nat) : vfieldAddr (tyOf Try.prog) 7 3 (.cptr cs o) = some (.cptr cs (o + 3)) := by kernel_rfl
theorem ty8 : tyOf Try.prog 8 = some ⟨Try.t7.desc, 4, 24, [.v (.int .i64 0), .v (.int .i64 0), .v (.bool false), .v (.int .u8 0)]⟩ := by kernel_rfl
theorem ag8 : isAggB Try.t7.desc = true := by kernel_rfl
theorem fa8_0 (k o : Nat) : vfieldAddr (tyOf Try.prog) 8 0 (.ptr k o) = some (.ptr k (o + 0)) := by kernel_rfl
theorem fc8_0 (cs : List MV) (o : Nat) : vfieldAddr (tyOf Try.prog) 8 0 (.cptr cs o) = some (.cptr cs (o + 0)) := by kernel_rfl
theorem fa8_1 (k o : Nat) : vfieldAddr (tyOf Try.prog) 8 1 (.ptr k o) = some (.ptr k (o + 1)) := by kernel_rfl
theorem fc8_1 (cs : List MV) (o : Nat) : vfieldAddr (tyOf Try.prog) 8 1 (.cptr cs o) = some (.cptr cs (o + 1)) := by kernel_rfl
theorem fa8_2 (k o : Nat) : vfieldAddr (tyOf Try.prog) 8 2 (.ptr k o) = some (.ptr k (o + 2)) := by kernel_rfl
theorem fc8_2 (cs : List MV) (o : Nat) : vfieldAddr (tyOf Try.prog) 8 2 (.cptr cs o) = some (.cptr cs (o + 2)) := by kernel_rfl
theorem fa8_3 (k o : Nat) : vfieldAddr (tyOf Try.prog) 8 3 (.ptr k o) = some (.ptr k (o + 3)) := by kernel_rfl
theorem fc8_3 (cs : List MV) (o : Nat) : vfieldAddr (tyOf Try.prog) 8 3 (.cptr cs o) = some (.cptr cs (o + 3)) := by kernel_rfl
theorem ty9 : tyOf Try.prog 9 = some ⟨.string, 1, 16, [.str []]⟩ := by kernel_rfl
theorem ty10 : tyOf Try.prog 10 = some ⟨.string, 1, 16, [.str []]⟩ := by kernel_rfl
theorem ty11 : tyOf Try.prog 11 = some ⟨.string, 1, 16, [.str []]⟩ := by kernel_rfl
theorem ty12 : tyOf Try.prog 12 = some ⟨.int .u64, 1, 8, [.v (.int .u64 0)]⟩ := by kernel_rfl
theorem ty13 : tyOf Try.prog 13 = some ⟨Try.t13.desc, 2, 24, [.str [], .v (.int .u64 0)]⟩ := by kernel_rfl
theorem ag13 : isAggB Try.t13.desc = true := by kernel_rfl
theorem fa13_0 (k o : Nat) : vfieldAddr (tyOf Try.prog) 13 0 (.ptr k o) = some (.ptr k (o + 0)) := by kernel_rfl
theorem fc13_0 (cs : List MV) (o : Nat) : vfieldAddr (tyOf Try.prog) 13 0 (.cptr cs o) = some (.cptr cs (o + 0)) := by kernel_rfl
theorem fa13_1 (k o : Nat) : vfieldAddr (tyOf Try.prog) 13 1 (.ptr k o) = some (.ptr k (o + 1)) := by kernel_rfl
theorem fc13_1 (cs : List MV) (o : Nat) : vfieldAddr (tyOf Try.prog) 13 1 (.cptr cs o) = some (.cptr cs (o + 1)) := by kernel_rfl
theorem ty14 : tyOf Try.prog 14 = some ⟨Try.t13.desc, 2, 24, [.str [], .v (.int .u64 0)]⟩ := by kernel_rfl
theorem ag14 : isAggB Try.t13.desc = true := by kernel_rfl
theorem fa14_0 (k o : Nat) : vfieldAddr (tyOf Try.prog) 14 0 (.ptr k o) = some (.ptr k (o + 0)) := by kernel_rfl
theorem fc14_0 (cs : List MV) (o : Nat) : vfieldAddr (tyOf Try.prog) 14 0 (.cptr cs o) = some (.cptr cs (o + 0)) := by kernel_rfl
theorem fa14_1 (k o : Nat) : vfieldAddr (tyOf Try.prog) 14 1 (.ptr k o) = some (.ptr k (o + 1)) := by kernel_rfl
theorem fc14_1 (cs : List MV) (o : Nat) : vfieldAddr (tyOf Try.prog) 14 1 (.cptr cs o) = some (.cptr cs (o + 1)) := by kernel_rfl
theorem ty15 : tyOf Try.prog 15 = some ⟨.pointer 72, 1, 8, [.v (.pointer none)]⟩ := by kernel_rfl
theorem ty16 : tyOf Try.prog 16 = some ⟨.pointer 75, 1, 8, [.v (.pointer none)]⟩ := by kernel_rfl
theorem ty17 : tyOf Try.prog 17 = some ⟨.pointer 85, 1, 8, [.v (.pointer none)]⟩ := by kernel_rfl
theorem ty18 : tyOf Try.prog 18 = some ⟨Try.t18.desc, 1, 8, [.v (.pointer none)]⟩ := by kernel_rfl
theorem ag18 : isAggB Try.t18.desc = true := by kernel_rfl
theorem fa18_0 (k o : Nat) : vfieldAddr (tyOf Try.prog) 18 0 (.ptr k o) = some (.ptr k (o + 0)) := by kernel_rfl
theorem fc18_0 (cs : List MV) (o : Nat) : vfieldAddr (tyOf Try.prog) 18 0 (.cptr cs o) = some (.cptr cs (o + 0)) := by kernel_rfl
theorem ty19 : tyOf Try.prog 19 = some ⟨Try.t18.desc, 1, 8, [.v (.pointer none)]⟩ := by kernel_rfl
theorem ag19 : isAggB Try.t18.desc = true := by kernel_rfl
theorem fa19_0 (k o : Nat) : vfieldAddr (tyOf Try.prog) 19 0 (.ptr k o) = some (.ptr k (o + 0)) := by kernel_rfl
theorem fc19_0 (cs : List MV) (o : Nat) : vfieldAddr (tyOf Try.prog) 19 0 (.cptr cs o) = some (.cptr cs (o + 0)) := by kernel_rfl
theorem ty20 : tyOf Try.prog 20 = some ⟨Try.t20.desc, 1, 16, [.v .nilIface]⟩ := by kernel_rfl
theorem ty21 : tyOf Try.prog 21 = some ⟨.int .i32, 1, 4, [.v (.int .i32 0)]⟩ := by kernel_rfl
theorem ty22 : tyOf Try.prog 22 = some ⟨.slice 3, 1, 24, [.sl 0 [] .nil]⟩ := by kernel_rfl
theorem ty23 : tyOf Try.prog 23 = some ⟨Try.t23.desc, 1, 8, [.v .nilFunc]⟩ := by kernel_rfl
theorem ty24 : tyOf Try.prog 24 = some ⟨.slice 22, 1, 24, [.sl 0 [] .nil]⟩ := by kernel_rfl
theorem ty26 : tyOf Try.prog 26 = some ⟨Try.t26.desc, 1, 8, [.v .nilFunc]⟩ := by kernel_rfl
theorem ty27 : tyOf Try.prog 27 = some ⟨.slice 4, 1, 24, [.sl 0 [] .nil]⟩ := by kernel_rfl
theorem ty28 : tyOf Try.prog 28 = some ⟨Try.t28.desc, 1, 8, [.v .nilFunc]⟩ := by kernel_rfl
theorem ty29 : tyOf Try.prog 29 = some ⟨Try.t29.desc, 1, 8, [.v .nilFunc]⟩ := by kernel_rfl
theorem ty30 : tyOf Try.prog 30 = some ⟨.int .u64, 1, 8, [.v (.int .u64 0)]⟩ := by kernel_rfl
theorem ty31 : tyOf Try.prog 31 = some ⟨Try.t31.desc, 1, 8, [.v .nilFunc]⟩ := by kernel_rfl
theorem ty32 : tyOf Try.prog 32 = some ⟨Try.t32.desc, 1, 8, [.v .nilFunc]⟩ := by kernel_rfl
theorem ty33 : tyOf Try.prog 33 = some ⟨Try.t33.desc, 1, 8, [.v .nilFunc]⟩ := by kernel_rfl
theorem ty34 : tyOf Try.prog 34 = some ⟨Try.t34.desc, 1, 8, [.v .nilFunc]⟩ := by kernel_rfl
theorem ty35 : tyOf Try.prog 35 = some ⟨Try.t35.desc, 1, 8, [.v .nilFunc]⟩ := by kernel_rfl
theorem ty36 : tyOf Try.prog 36 = some ⟨Try.t36.desc, 1, 8, [.v .nilFunc]⟩ := by kernel_rfl
theorem ty37 : tyOf Try.prog 37 = some ⟨Try.t37.desc, 1, 8, [.v .nilFunc]⟩ := by kernel_rfl
theorem ty38 : tyOf Try.prog 38 = some ⟨Try.t38.desc, 1, 8, [.v .nilFunc]⟩ := by kernel_rfl
theorem ty39 : tyOf Try.prog 39 = some ⟨Try.t39.desc, 1, 8, [.v .nilFunc]⟩ := by kernel_rfl
theorem ty40 : tyOf Try.prog 40 = some ⟨Try.t40.desc, 2, 32, [.v (.int .i64 0), .sl 0 [] .nil]⟩ := by kernel_rfl
theorem ag40 : isAggB Try.t40.desc = true := by kernel_rfl
theorem fa40_0 (k o : Nat) : vfieldAddr (tyOf Try.prog) 40 0 (.ptr k o) = some (.ptr k (o + 0)) := by kernel_rfl
theorem fc40_0 (cs : List MV) (o : Nat) : vfieldAddr (tyOf Try.prog) 40 0 (.cptr cs o) = some (.cptr cs (o + 0)) := by kernel_rfl
theorem fa40_1 (k o : Nat) : vfieldAddr (tyOf Try.prog) 40 1 (.ptr k o) = some (.ptr k (o + 1)) := by kernel_rfl
theorem fc40_1 (cs : List MV) (o : Nat) : vfieldAddr (tyOf Try.prog) 40 1 (.cptr cs o) = some (.cptr cs (o + 1)) := by kernel_rfl
theorem ty41 : tyOf Try.prog 41 = some ⟨Try.t40.desc, 2, 32, [.v (.int .i64 0), .sl 0 [] .nil]⟩ := by kernel_rfl
theorem ag41 : isAggB Try.t40.desc = true := by kernel_rfl
theorem fa41_0 (k o : Nat) : vfieldAddr (tyOf Try.prog) 41 0 (.ptr k o) = some (.ptr k (o + 0)) := by kernel_rfl
theorem fc41_0 (cs : List MV) (o : Nat) : vfieldAddr (tyOf Try.prog) 41 0 (.cptr cs o) = some (.cptr cs (o + 0)) := by kernel_rfl
theorem fa41_1 (k o : Nat) : vfieldAddr (tyOf Try.prog) 41 1 (.ptr k o) = some (.ptr k (o + 1)) := by kernel_rfl
theorem fc41_1 (cs : List MV) (o : Nat) : vfieldAddr (tyOf Try.prog) 41 1 (.cptr cs o) = some (.cptr cs (o + 1)) := by kernel_rfl
theorem ty42 : tyOf Try.prog 42 = some ⟨Try.t42.desc, 1, 8, [.v .nilFunc]⟩ := by kernel_rfl
theorem ty43 : tyOf Try.prog 43 = some ⟨.array 2 24, 2, 48, [.sl 0 [] .nil, .sl 0 [] .nil]⟩ := by kernel_rfl
theorem ty44 : tyOf Try.prog 44 = some ⟨Try.t44.desc, 1, 8, [.v .nilFunc]⟩ := by kernel_rfl
theorem ty45 : tyOf Try.prog 45 = some ⟨Try.t45.desc, 1, 8, [.v .nilFunc]⟩ := by kernel_rfl
theorem ty46 : tyOf Try.prog 46 = some ⟨Try.t46.desc, 1, 8, [.v .nilFunc]⟩ := by kernel_rfl
theorem ty47 : tyOf Try.prog 47 = some ⟨Try.t47.desc, 1, 8, [.v .nilFunc]⟩ := by kernel_rfl
theorem ty48 : tyOf Try.prog 48 = some ⟨Try.t48.desc, 1, 8, [.v .nilFunc]⟩ := by kernel_rfl
theorem ty49 : tyOf Try.prog 49 = some ⟨Try.t49.desc, 4, 64, [.v (.int .i64 0), .sl 0 [] .nil, .sl 0 [] .nil, .v (.int .i64 0)]⟩ := by kernel_rfl
theorem ag49 : isAggB Try.t49.desc = true := by kernel_rfl
theorem fa49_0 (k o : Nat) : vfieldAddr (tyOf Try.prog) 49 0 (.ptr k o) = some (.ptr k (o + 0)) := by kernel_rfl
theorem fc49_0 (cs : List MV) (o : Nat) : vfieldAddr (tyOf Try.prog) 49 0 (.cptr cs o) = some (.cptr cs (o + 0)) := by kernel_rfl
theorem fa49_1 (k o : Nat) : vfieldAddr (tyOf Try.prog) 49 1 (.ptr k o) = some (.ptr k (o + 1)) := by kernel_rfl
theorem fc49_1 (cs : List MV) (o : Nat) : vfieldAddr (tyOf Try.prog) 49 1 (.cptr cs o) = some (.cptr cs (o + 1)) := by kernel_rfl
theorem fa49_2 (k o : Nat) : vfieldAddr (tyOf Try.prog) 49 2 (.ptr k o) = some (.ptr k (o + 2)) := by kernel_rfl
theorem fc49_2 (cs : List MV) (o : Nat) : vfieldAddr (tyOf Try.prog) 49 2 (.cptr cs o) = some (.cptr cs (o + 2)) := by kernel_rfl
theorem fa49_3 (k o : Nat) : vfieldAddr (tyOf Try.prog) 49 3 (.ptr k o) = some (.ptr k (o + 3)) := by kernel_rfl
theorem fc49_3 (cs : List MV) (o : Nat) : vfieldAddr (tyOf Try.prog) 49 3 (.cptr cs o) = some (.cptr cs (o + 3)) := by kernel_rfl
theorem ty50 : tyOf Try.prog 50 = some ⟨Try.t49.desc, 4, 64, [.v (.int .i64 0), .sl 0 [] .nil, .sl 0 [] .nil, .v (.int .i64 0)]⟩ := by kernel_rfl
theorem ag50 : isAggB Try.t49.desc = true := by kernel_rfl
theorem fa50_0 (k o : Nat) : vfieldAddr (tyOf Try.prog) 50 0 (.ptr k o) = some (.ptr k (o + 0)) := by kernel_rfl
theorem fc50_0 (cs : List MV) (o : Nat) : vfieldAddr (tyOf Try.prog) 50 0 (.cptr cs o) = some (.cptr cs (o + 0)) := by kernel_rfl
theorem fa50_1 (k o : Nat) : vfieldAddr (tyOf Try.prog) 50 1 (.ptr k o) = some (.ptr k (o + 1)) := by kernel_rfl
theorem fc50_1 (cs : List MV) (o : Nat) : vfieldAddr (tyOf Try.prog) 50 1 (.cptr cs o) = some (.cptr cs (o + 1)) := by kernel_rfl
theorem fa50_2 (k o : Nat) : vfieldAddr (tyOf Try.prog) 50 2 (.ptr k o) = some (.ptr k (o + 2)) := by kernel_rfl
theorem fc50_2 (cs : List MV) (o : Nat) : vfieldAddr (tyOf Try.prog) 50 2 (.cptr cs o) = some (.cptr cs (o + 2)) := by kernel_rfl
theorem fa50_3 (k o : Nat) : vfieldAddr (tyOf Try.prog) 50 3 (.ptr k o) = some (.ptr k (o + 3)) := by kernel_rfl
theorem fc50_3 (cs : List MV) (o : Nat) : vfieldAddr (tyOf Try.prog) 50 3 (.cptr cs o) = some (.cptr cs (o + 3)) := by kernel_rfl
theorem ty51 : tyOf Try.prog 51 = some ⟨Try.t51.desc, 1, 8, [.v .nilFunc]⟩ := by kernel_rfl
theorem ty52 : tyOf Try.prog 52 = some ⟨.pointer 54, 1, 8, [.v (.pointer none)]⟩ := by kernel_rfl
theorem ty53 : tyOf Try.prog 53 = some ⟨Try.t53.desc, 1, 24, [.sl 0 [] .nil]⟩ := by kernel_rfl
theorem ag53 : isAggB Try.t53.desc = true := by kernel_rfl
theorem fa53_0 (k o : Nat) : vfieldAddr (tyOf Try.prog) 53 0 (.ptr k o) = some (.ptr k (o + 0)) := by kernel_rfl
theorem fc53_0 (cs : List MV) (o : Nat) : vfieldAddr (tyOf Try.prog) 53 0 (.cptr cs o) = some (.cptr cs (o + 0)) := by kernel_rfl
theorem ty54 : tyOf Try.prog 54 = some ⟨Try.t53.desc, 1, 24, [.sl 0 [] .nil]⟩ := by kernel_rfl
theorem ag54 : isAggB Try.t53.desc = true := by kernel_rfl
theorem fa54_0 (k o : Nat) : vfieldAddr (tyOf Try.prog) 54 0 (.ptr k o) = some (.ptr k (o + 0)) := by kernel_rfl
theorem fc54_0 (cs : List MV) (o : Nat) : vfieldAddr (tyOf Try.prog) 54 0 (.cptr cs o) = some (.cptr cs (o + 0)) := by kernel_rfl
theorem ty55 : tyOf Try.prog 55 = some ⟨Try.t55.desc, 1, 8, [.v .nilFunc]⟩ := by kernel_rfl
theorem ty56 : tyOf Try.prog 56 = some ⟨Try.t56.desc, 1, 8, [.v .nilFunc]⟩ := by kernel_rfl
theorem ty57 : tyOf Try.prog 57 = some ⟨Try.t57.desc, 1, 8, [.v .nilFunc]⟩ := by kernel_rfl
theorem ty58 : tyOf Try.prog 58 = some ⟨.pointer 64, 1, 8, [.v (.pointer none)]⟩ := by kernel_rfl
theorem ty59 : tyOf Try.prog 59 = some ⟨Try.t59.desc, 1, 8, [.v .nilFunc]⟩ := by kernel_rfl
theorem ty60 : tyOf Try.prog 60 = some ⟨Try.t60.desc, 1, 8, [.v .nilFunc]⟩ := by kernel_rfl
theorem ty61 : tyOf Try.prog 61 = some ⟨Try.t61.desc, 1, 8, [.v .nilFunc]⟩ := by kernel_rfl
theorem ty62 : tyOf Try.prog 62 = some ⟨.map 3 22, 1, 8, [.v (.map none)]⟩ := by kernel_rfl
theorem ty63 : tyOf Try.prog 63 = some ⟨Try.t63.desc, 3, 56, [.sl 0 [] .nil, .v (.map none), .sl 0 [] .nil]⟩ := by kernel_rfl
theorem ag63 : isAggB Try.t63.desc = true := by kernel_rfl
theorem fa63_0 (k o : Nat) : vfieldAddr (tyOf Try.prog) 63 0 (.ptr k o) = some (.ptr k (o + 0)) := by kernel_rfl
theorem fc63_0 (cs : List MV) (o : Nat) : vfieldAddr (tyOf Try.prog) 63 0 (.cptr cs o) = some (.cptr cs (o + 0)) := by kernel_rfl
theorem fa63_1 (k o : Nat) : vfieldAddr (tyOf Try.prog) 63 1 (.ptr k o) = some (.ptr k (o + 1)) := by kernel_rfl
theorem fc63_1 (cs : List MV) (o : Nat) : vfieldAddr (tyOf Try.prog) 63 1 (.cptr cs o) = some (.cptr cs (o + 1)) := by kernel_rfl
theorem fa63_2 (k o : Nat) : vfieldAddr (tyOf Try.prog) 63 2 (.ptr k o) = some (.ptr k (o + 2)) := by kernel_rfl
theorem fc63_2 (cs : List MV) (o : Nat) : vfieldAddr (tyOf Try.prog) 63 2 (.cptr cs o) = some (.cptr cs (o + 2)) := by kernel_rfl
theorem ty64 : tyOf Try.prog 64 = some ⟨Try.t63.desc, 3, 56, [.sl 0 [] .nil, .v (.map none), .sl 0 [] .nil]⟩ := by kernel_rfl
theorem ag64 : isAggB Try.t63.desc = true := by kernel_rfl
theorem fa64_0 (k o : Nat) : vfieldAddr (tyOf Try.prog) 64 0 (.ptr k o) = some (.ptr k (o + 0)) := by kernel_rfl
theorem fc64_0 (cs : List MV) (o : Nat) : vfieldAddr (tyOf Try.prog) 64 0 (.cptr cs o) = some (.cptr cs (o + 0)) := by kernel_rfl
theorem fa64_1 (k o : Nat) : vfieldAddr (tyOf Try.prog) 64 1 (.ptr k o) = some (.ptr k (o + 1)) := by kernel_rfl
theorem fc64_1 (cs : List MV) (o : Nat) : vfieldAddr (tyOf Try.prog) 64 1 (.cptr cs o) = some (.cptr cs (o + 1)) := by kernel_rfl
theorem fa64_2 (k o : Nat) : vfieldAddr (tyOf Try.prog) 64 2 (.ptr k o) = some (.ptr k (o + 2)) := by kernel_rfl
theorem fc64_2 (cs : List MV) (o : Nat) : vfieldAddr (tyOf Try.prog) 64 2 (.cptr cs o) = some (.cptr cs (o + 2)) := by kernel_rfl
theorem ty65 : tyOf Try.prog 65 = some ⟨.pointer 68, 1, 8, [.v (.pointer none)]⟩ := by kernel_rfl
theorem ty66 : tyOf Try.prog 66 = some ⟨.map 3 4, 1, 8, [.v (.map none)]⟩ := by kernel_rfl
theorem ty67 : tyOf Try.prog 67 = some ⟨Try.t67.desc, 4, 48, [.v (.pointer none), .v (.map none), .sl 0 [] .nil, .v (.bool false)]⟩ := by kernel_rfl
theorem ag67 : isAggB Try.t67.desc = true := by kernel_rfl
theorem fa67_0 (k o : Nat) : vfieldAddr (tyOf Try.prog) 67 0 (.ptr k o) = some (.ptr k (o + 0)) := by kernel_rfl
theorem fc67_0 (cs : List MV) (o : Nat) : vfieldAddr (tyOf Try.prog) 67 0 (.cptr cs o) = some (.cptr cs (o + 0)) := by kernel_rfl
theorem fa67_1 (k o : Nat) : vfieldAddr (tyOf Try.prog) 67 1 (.ptr k o) = some (.ptr k (o + 1)) := by kernel_rfl
theorem fc67_1 (cs : List MV) (o : Nat) : vfieldAddr (tyOf Try.prog) 67 1 (.cptr cs o) = some (.cptr cs (o + 1)) := by kernel_rfl
theorem fa67_2 (k o : Nat) : vfieldAddr (tyOf Try.prog) 67 2 (.ptr k o) = some (.ptr k (o + 2)) := by kernel_rfl
theorem fc67_2 (cs : List MV) (o : Nat) : vfieldAddr (tyOf Try.prog) 67 2 (.cptr cs o) = some (.cptr cs (o + 2)) := by kernel_rfl
theorem fa67_3 (k o : Nat) : vfieldAddr (tyOf Try.prog) 67 3 (.ptr k o) = some (.ptr k (o + 3)) := by kernel_rfl
theorem fc67_3 (cs : List MV) (o : Nat) : vfieldAddr (tyOf Try.prog) 67 3 (.cptr cs o) = some (.cptr cs (o + 3)) := by kernel_rfl
theorem ty68 : tyOf Try.prog 68 = some ⟨Try.t67.desc, 4, 48, [.v (.pointer none), .v (.map none), .sl 0 [] .nil, .v (.bool false)]⟩ := by kernel_rfl
theorem ag68 : isAggB Try.t67.desc = true := by kernel_rfl
theorem fa68_0 (k o : Nat) : vfieldAddr (tyOf Try.prog) 68 0 (.ptr k o) = some (.ptr k (o + 0)) := by kernel_rfl
theorem fc68_0 (cs : List MV) (o : Nat) : vfieldAddr (tyOf Try.prog) 68 0 (.cptr cs o) = some (.cptr cs (o + 0)) := by kernel_rfl
theorem fa68_1 (k o : Nat) : vfieldAddr (tyOf Try.prog) 68 1 (.ptr k o) = some (.ptr k (o + 1)) := by kernel_rfl
theorem fc68_1 (cs : List MV) (o : Nat) : vfieldAddr (tyOf Try.prog) 68 1 (.cptr cs o) = some (.cptr cs (o + 1)) := by kernel_rfl
theorem fa68_2 (k o : Nat) : vfieldAddr (tyOf Try.prog) 68 2 (.ptr k o) = some (.ptr k (o + 2)) := by kernel_rfl
theorem fc68_2 (cs : List MV) (o : Nat) : vfieldAddr (tyOf Try.prog) 68 2 (.cptr cs o) = some (.cptr cs (o + 2)) := by kernel_rfl
theorem fa68_3 (k o : Nat) : vfieldAddr (tyOf Try.prog) 68 3 (.ptr k o) = some (.ptr k (o + 3)) := by kernel_rfl
theorem fc68_3 (cs : List MV) (o : Nat) : vfieldAddr (tyOf Try.prog) 68 3 (.cptr cs o) = some (.cptr cs (o + 3)) := by kernel_rfl
theorem ty69 : tyOf Try.prog 69 = some ⟨Try.t69.desc, 1, 8, [.v .nilFunc]⟩ := by kernel_rfl
theorem ty70 : tyOf Try.prog 70 = some ⟨Try.t70.desc, 1, 8, [.v .nilFunc]⟩ := by kernel_rfl
theorem ty71 : tyOf Try.prog 71 = some ⟨Try.t71.desc, 4, 40, [.v (.pointer none), .v (.pointer none), .v (.pointer none), .str []]⟩ := by kernel_rfl
theorem ag71 : isAggB Try.t71.desc = true := by kernel_rfl
theorem fa71_0 (k o : Nat) : vfieldAddr (tyOf Try.prog) 71 0 (.ptr k o) = some (.ptr k (o + 0)) := by kernel_rfl
theorem fc71_0 (cs : List MV) (o : Nat) : vfieldAddr (tyOf Try.prog) 71 0 (.cptr cs o) = some (.cptr cs (o + 0)) := by kernel_rfl
theorem fa71_1 (k o : Nat) : vfieldAddr (tyOf Try.prog) 71 1 (.ptr k o) = some (.ptr k (o + 1)) := by kernel_rfl
theorem fc71_1 (cs : List MV) (o : Nat) : vfieldAddr (tyOf Try.prog) 71 1 (.cptr cs o) = some (.cptr cs (o + 1)) := by kernel_rfl
theorem fa71_2 (k o : Nat) : vfieldAddr (tyOf Try.prog) 71 2 (.ptr k o) = some (.ptr k (o + 2)) := by kernel_rfl
theorem fc71_2 (cs : List MV) (o : Nat) : vfieldAddr (tyOf Try.prog) 71 2 (.cptr cs o) = some (.cptr cs (o + 2)) := by kernel_rfl
theorem fa71_3 (k o : Nat) : vfieldAddr (tyOf Try.prog) 71 3 (.ptr k o) = some (.ptr k (o + 3)) := by kernel_rfl
theorem fc71_3 (cs : List MV) (o : Nat) : vfieldAddr (tyOf Try.prog) 71 3 (.cptr cs o) = some (.cptr cs (o + 3)) := by kernel_rfl
end Go.Proofs.Ytcfoongiffpnlaa
