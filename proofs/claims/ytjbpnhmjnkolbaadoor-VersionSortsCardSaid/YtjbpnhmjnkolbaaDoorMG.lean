/-
  Texts Ty Bld VerA, one behind the other.
-/
import Derived.Test.YtjbpnhmjnkolbaaDoorMF
import Derived.Test.YtjbpnhmjnkolbaaDoorRows
/-
  THE TYPES OF THIS PROGRAM, as the value machine uses them. Printed by types.py; each row is the kernel's.
-/
namespace Go.Proofs.YtjbpnhmjnkolbaaDoor
theorem tabOk : TabOk Tryd.prog (tyOf Tryd.prog) := tyOf_ok _
theorem ty1 : tyOf Tryd.prog 1 = some ⟨Tryd.t1.desc, 1, 8, [.v .nilFunc]⟩ := by kernel_rfl
theorem ty2 : tyOf Tryd.prog 2 = some ⟨.int .i64, 1, 8, [.v (.int .i64 0)]⟩ := by kernel_rfl
theorem ty3 : tyOf Tryd.prog 3 = some ⟨.int .i64, 1, 8, [.v (.int .i64 0)]⟩ := by kernel_rfl
theorem ty4 : tyOf Tryd.prog 4 = some ⟨.bool, 1, 1, [.v (.bool false)]⟩ := by kernel_rfl
theorem ty5 : tyOf Tryd.prog 5 = some ⟨.int .u8, 1, 1, [.v (.int .u8 0)]⟩ := by kernel_rfl
theorem ty6 : tyOf Tryd.prog 6 = some ⟨.int .u8, 1, 1, [.v (.int .u8 0)]⟩ := by kernel_rfl
theorem ty7 : tyOf Tryd.prog 7 = some ⟨Tryd.t7.desc, 4, 24, [.v (.int .i64 0), .v (.int .i64 0), .v (.bool false), .v (.int .u8 0)]⟩ := by kernel_rfl
theorem ag7 : isAggB Tryd.t7.desc = true := by kernel_rfl
theorem bd7 (p : List (Nat × MV)) : vbuild (tyOf Tryd.prog) 7 p = (vfill (placeL [(0, 1), (1, 1), (2, 1), (3, 1)]) [.v (.int .i64 0), .v (.int .i64 0), .v (.bool false), .v (.int .u8 0)] p).map .agg := by kernel_rfl
theorem fa7_0 (k o : Nat) : vfieldAddr (tyOf Tryd.prog) 7 0 (.ptr k o) = some (.ptr k (o + 0)) := by kernel_rfl
theorem fd7_0 (cs : List MV) : vfield (tyOf Tryd.prog) 7 (.agg cs) 0 = vcell false 1 cs 0 := by kernel_rfl
theorem fc7_0 (cs : List MV) (o : Nat) : vfieldAddr (tyOf Tryd.prog) 7 0 (.cptr cs o) = some (.cptr cs (o + 0)) := by kernel_rfl
theorem fa7_1 (k o : Nat) : vfieldAddr (tyOf Tryd.prog) 7 1 (.ptr k o) = some (.ptr k (o + 1)) := by kernel_rfl
theorem fd7_1 (cs : List MV) : vfield (tyOf Tryd.prog) 7 (.agg cs) 1 = vcell false 1 cs 1 := by kernel_rfl
theorem fc7_1 (cs : List MV) (o : Nat) : vfieldAddr (tyOf Tryd.prog) 7 1 (.cptr cs o) = some (.cptr cs (o + 1)) := by kernel_rfl
theorem fa7_2 (k o : Nat) : vfieldAddr (tyOf Tryd.prog) 7 2 (.ptr k o) = some (.ptr k (o + 2)) := by kernel_rfl
theorem fd7_2 (cs : List MV) : vfield (tyOf Tryd.prog) 7 (.agg cs) 2 = vcell false 1 cs 2 := by kernel_rfl
theorem fc7_2 (cs : List MV) (o : Nat) : vfieldAddr (tyOf Tryd.prog) 7 2 (.cptr cs o) = some (.cptr cs (o + 2)) := by kernel_rfl
theorem fa7_3 (k o : Nat) : vfieldAddr (tyOf Tryd.prog) 7 3 (.ptr k o) = some (.ptr k (o + 3)) := by kernel_rfl
theorem fd7_3 (cs : List MV) : vfield (tyOf Tryd.prog) 7 (.agg cs) 3 = vcell false 1 cs 3 := by kernel_rfl
theorem fc7_3 (cs : List MV) (o : Nat) : vfieldAddr (tyOf Tryd.prog) 7 3 (.cptr cs o) = some (.cptr cs (o + 3)) := by kernel_rfl
theorem ty8 : tyOf Tryd.prog 8 = some ⟨Tryd.t7.desc, 4, 24, [.v (.int .i64 0), .v (.int .i64 0), .v (.bool false), .v (.int .u8 0)]⟩ := by kernel_rfl
theorem ag8 : isAggB Tryd.t7.desc = true := by kernel_rfl
theorem bd8 (p : List (Nat × MV)) : vbuild (tyOf Tryd.prog) 8 p = (vfill (placeL [(0, 1), (1, 1), (2, 1), (3, 1)]) [.v (.int .i64 0), .v (.int .i64 0), .v (.bool false), .v (.int .u8 0)] p).map .agg := by kernel_rfl
theorem fa8_0 (k o : Nat) : vfieldAddr (tyOf Tryd.prog) 8 0 (.ptr k o) = some (.ptr k (o + 0)) := by kernel_rfl
theorem fd8_0 (cs : List MV) : vfield (tyOf Tryd.prog) 8 (.agg cs) 0 = vcell false 1 cs 0 := by kernel_rfl
theorem fc8_0 (cs : List MV) (o : Nat) : vfieldAddr (tyOf Tryd.prog) 8 0 (.cptr cs o) = some (.cptr cs (o + 0)) := by kernel_rfl
theorem fa8_1 (k o : Nat) : vfieldAddr (tyOf Tryd.prog) 8 1 (.ptr k o) = some (.ptr k (o + 1)) := by kernel_rfl
theorem fd8_1 (cs : List MV) : vfield (tyOf Tryd.prog) 8 (.agg cs) 1 = vcell false 1 cs 1 := by kernel_rfl
theorem fc8_1 (cs : List MV) (o : Nat) : vfieldAddr (tyOf Tryd.prog) 8 1 (.cptr cs o) = some (.cptr cs (o + 1)) := by kernel_rfl
theorem fa8_2 (k o : Nat) : vfieldAddr (tyOf Tryd.prog) 8 2 (.ptr k o) = some (.ptr k (o + 2)) := by kernel_rfl
theorem fd8_2 (cs : List MV) : vfield (tyOf Tryd.prog) 8 (.agg cs) 2 = vcell false 1 cs 2 := by kernel_rfl
theorem fc8_2 (cs : List MV) (o : Nat) : vfieldAddr (tyOf Tryd.prog) 8 2 (.cptr cs o) = some (.cptr cs (o + 2)) := by kernel_rfl
theorem fa8_3 (k o : Nat) : vfieldAddr (tyOf Tryd.prog) 8 3 (.ptr k o) = some (.ptr k (o + 3)) := by kernel_rfl
theorem fd8_3 (cs : List MV) : vfield (tyOf Tryd.prog) 8 (.agg cs) 3 = vcell false 1 cs 3 := by kernel_rfl
theorem fc8_3 (cs : List MV) (o : Nat) : vfieldAddr (tyOf Tryd.prog) 8 3 (.cptr cs o) = some (.cptr cs (o + 3)) := by kernel_rfl
theorem ty9 : tyOf Tryd.prog 9 = some ⟨.string, 1, 16, [.str []]⟩ := by kernel_rfl
theorem ty10 : tyOf Tryd.prog 10 = some ⟨.string, 1, 16, [.str []]⟩ := by kernel_rfl
theorem ty11 : tyOf Tryd.prog 11 = some ⟨.string, 1, 16, [.str []]⟩ := by kernel_rfl
theorem ty12 : tyOf Tryd.prog 12 = some ⟨.int .u64, 1, 8, [.v (.int .u64 0)]⟩ := by kernel_rfl
theorem ty13 : tyOf Tryd.prog 13 = some ⟨Tryd.t13.desc, 2, 24, [.str [], .v (.int .u64 0)]⟩ := by kernel_rfl
theorem ag13 : isAggB Tryd.t13.desc = true := by kernel_rfl
theorem bd13 (p : List (Nat × MV)) : vbuild (tyOf Tryd.prog) 13 p = (vfill (placeL [(0, 1), (1, 1)]) [.str [], .v (.int .u64 0)] p).map .agg := by kernel_rfl
theorem fa13_0 (k o : Nat) : vfieldAddr (tyOf Tryd.prog) 13 0 (.ptr k o) = some (.ptr k (o + 0)) := by kernel_rfl
theorem fd13_0 (cs : List MV) : vfield (tyOf Tryd.prog) 13 (.agg cs) 0 = vcell false 1 cs 0 := by kernel_rfl
theorem fc13_0 (cs : List MV) (o : Nat) : vfieldAddr (tyOf Tryd.prog) 13 0 (.cptr cs o) = some (.cptr cs (o + 0)) := by kernel_rfl
theorem fa13_1 (k o : Nat) : vfieldAddr (tyOf Tryd.prog) 13 1 (.ptr k o) = some (.ptr k (o + 1)) := by kernel_rfl
theorem fd13_1 (cs : List MV) : vfield (tyOf Tryd.prog) 13 (.agg cs) 1 = vcell false 1 cs 1 := by kernel_rfl
theorem fc13_1 (cs : List MV) (o : Nat) : vfieldAddr (tyOf Tryd.prog) 13 1 (.cptr cs o) = some (.cptr cs (o + 1)) := by kernel_rfl
theorem ty14 : tyOf Tryd.prog 14 = some ⟨Tryd.t13.desc, 2, 24, [.str [], .v (.int .u64 0)]⟩ := by kernel_rfl
theorem ag14 : isAggB Tryd.t13.desc = true := by kernel_rfl
theorem bd14 (p : List (Nat × MV)) : vbuild (tyOf Tryd.prog) 14 p = (vfill (placeL [(0, 1), (1, 1)]) [.str [], .v (.int .u64 0)] p).map .agg := by kernel_rfl
theorem fa14_0 (k o : Nat) : vfieldAddr (tyOf Tryd.prog) 14 0 (.ptr k o) = some (.ptr k (o + 0)) := by kernel_rfl
theorem fd14_0 (cs : List MV) : vfield (tyOf Tryd.prog) 14 (.agg cs) 0 = vcell false 1 cs 0 := by kernel_rfl
theorem fc14_0 (cs : List MV) (o : Nat) : vfieldAddr (tyOf Tryd.prog) 14 0 (.cptr cs o) = some (.cptr cs (o + 0)) := by kernel_rfl
theorem fa14_1 (k o : Nat) : vfieldAddr (tyOf Tryd.prog) 14 1 (.ptr k o) = some (.ptr k (o + 1)) := by kernel_rfl
theorem fd14_1 (cs : List MV) : vfield (tyOf Tryd.prog) 14 (.agg cs) 1 = vcell false 1 cs 1 := by kernel_rfl
theorem fc14_1 (cs : List MV) (o : Nat) : vfieldAddr (tyOf Tryd.prog) 14 1 (.cptr cs o) = some (.cptr cs (o + 1)) := by kernel_rfl
theorem ty15 : tyOf Tryd.prog 15 = some ⟨.pointer 103, 1, 8, [.v (.pointer none)]⟩ := by kernel_rfl
theorem ty16 : tyOf Tryd.prog 16 = some ⟨.pointer 106, 1, 8, [.v (.pointer none)]⟩ := by kernel_rfl
theorem ty17 : tyOf Tryd.prog 17 = some ⟨.pointer 114, 1, 8, [.v (.pointer none)]⟩ := by kernel_rfl
theorem ty18 : tyOf Tryd.prog 18 = some ⟨Tryd.t18.desc, 1, 8, [.v (.pointer none)]⟩ := by kernel_rfl
theorem ag18 : isAggB Tryd.t18.desc = true := by kernel_rfl
theorem bd18 (p : List (Nat × MV)) : vbuild (tyOf Tryd.prog) 18 p = (vfill (placeL [(0, 1)]) [.v (.pointer none)] p).map .agg := by kernel_rfl
theorem fa18_0 (k o : Nat) : vfieldAddr (tyOf Tryd.prog) 18 0 (.ptr k o) = some (.ptr k (o + 0)) := by kernel_rfl
theorem fd18_0 (cs : List MV) : vfield (tyOf Tryd.prog) 18 (.agg cs) 0 = vcell false 1 cs 0 := by kernel_rfl
theorem fc18_0 (cs : List MV) (o : Nat) : vfieldAddr (tyOf Tryd.prog) 18 0 (.cptr cs o) = some (.cptr cs (o + 0)) := by kernel_rfl
theorem ty19 : tyOf Tryd.prog 19 = some ⟨Tryd.t18.desc, 1, 8, [.v (.pointer none)]⟩ := by kernel_rfl
theorem ag19 : isAggB Tryd.t18.desc = true := by kernel_rfl
theorem bd19 (p : List (Nat × MV)) : vbuild (tyOf Tryd.prog) 19 p = (vfill (placeL [(0, 1)]) [.v (.pointer none)] p).map .agg := by kernel_rfl
theorem fa19_0 (k o : Nat) : vfieldAddr (tyOf Tryd.prog) 19 0 (.ptr k o) = some (.ptr k (o + 0)) := by kernel_rfl
theorem fd19_0 (cs : List MV) : vfield (tyOf Tryd.prog) 19 (.agg cs) 0 = vcell false 1 cs 0 := by kernel_rfl
theorem fc19_0 (cs : List MV) (o : Nat) : vfieldAddr (tyOf Tryd.prog) 19 0 (.cptr cs o) = some (.cptr cs (o + 0)) := by kernel_rfl
theorem ty20 : tyOf Tryd.prog 20 = some ⟨Tryd.t20.desc, 1, 16, [.v .nilIface]⟩ := by kernel_rfl
theorem ty21 : tyOf Tryd.prog 21 = some ⟨.int .i32, 1, 4, [.v (.int .i32 0)]⟩ := by kernel_rfl
theorem ty22 : tyOf Tryd.prog 22 = some ⟨Tryd.t22.desc, 1, 8, [.v .nilFunc]⟩ := by kernel_rfl
theorem ty23 : tyOf Tryd.prog 23 = some ⟨.slice 28, 1, 24, [.sl 0 [] .nil]⟩ := by kernel_rfl
theorem ty24 : tyOf Tryd.prog 24 = some ⟨Tryd.t24.desc, 1, 8, [.v .nilFunc]⟩ := by kernel_rfl
theorem ty25 : tyOf Tryd.prog 25 = some ⟨.slice 30, 1, 24, [.sl 0 [] .nil]⟩ := by kernel_rfl
theorem ty26 : tyOf Tryd.prog 26 = some ⟨Tryd.t26.desc, 1, 8, [.v .nilFunc]⟩ := by kernel_rfl
theorem ty27 : tyOf Tryd.prog 27 = some ⟨Tryd.t27.desc, 3, 24, [.v (.bool false), .v (.bool false), .str []]⟩ := by kernel_rfl
theorem ag27 : isAggB Tryd.t27.desc = true := by kernel_rfl
theorem bd27 (p : List (Nat × MV)) : vbuild (tyOf Tryd.prog) 27 p = (vfill (placeL [(0, 1), (1, 1), (2, 1)]) [.v (.bool false), .v (.bool false), .str []] p).map .agg := by kernel_rfl
theorem fa27_0 (k o : Nat) : vfieldAddr (tyOf Tryd.prog) 27 0 (.ptr k o) = some (.ptr k (o + 0)) := by kernel_rfl
theorem fd27_0 (cs : List MV) : vfield (tyOf Tryd.prog) 27 (.agg cs) 0 = vcell false 1 cs 0 := by kernel_rfl
theorem fc27_0 (cs : List MV) (o : Nat) : vfieldAddr (tyOf Tryd.prog) 27 0 (.cptr cs o) = some (.cptr cs (o + 0)) := by kernel_rfl
theorem fa27_1 (k o : Nat) : vfieldAddr (tyOf Tryd.prog) 27 1 (.ptr k o) = some (.ptr k (o + 1)) := by kernel_rfl
theorem fd27_1 (cs : List MV) : vfield (tyOf Tryd.prog) 27 (.agg cs) 1 = vcell false 1 cs 1 := by kernel_rfl
theorem fc27_1 (cs : List MV) (o : Nat) : vfieldAddr (tyOf Tryd.prog) 27 1 (.cptr cs o) = some (.cptr cs (o + 1)) := by kernel_rfl
theorem fa27_2 (k o : Nat) : vfieldAddr (tyOf Tryd.prog) 27 2 (.ptr k o) = some (.ptr k (o + 2)) := by kernel_rfl
theorem fd27_2 (cs : List MV) : vfield (tyOf Tryd.prog) 27 (.agg cs) 2 = vcell false 1 cs 2 := by kernel_rfl
theorem fc27_2 (cs : List MV) (o : Nat) : vfieldAddr (tyOf Tryd.prog) 27 2 (.cptr cs o) = some (.cptr cs (o + 2)) := by kernel_rfl
theorem ty28 : tyOf Tryd.prog 28 = some ⟨Tryd.t27.desc, 3, 24, [.v (.bool false), .v (.bool false), .str []]⟩ := by kernel_rfl
theorem ag28 : isAggB Tryd.t27.desc = true := by kernel_rfl
theorem bd28 (p : List (Nat × MV)) : vbuild (tyOf Tryd.prog) 28 p = (vfill (placeL [(0, 1), (1, 1), (2, 1)]) [.v (.bool false), .v (.bool false), .str []] p).map .agg := by kernel_rfl
theorem fa28_0 (k o : Nat) : vfieldAddr (tyOf Tryd.prog) 28 0 (.ptr k o) = some (.ptr k (o + 0)) := by kernel_rfl
theorem fd28_0 (cs : List MV) : vfield (tyOf Tryd.prog) 28 (.agg cs) 0 = vcell false 1 cs 0 := by kernel_rfl
theorem fc28_0 (cs : List MV) (o : Nat) : vfieldAddr (tyOf Tryd.prog) 28 0 (.cptr cs o) = some (.cptr cs (o + 0)) := by kernel_rfl
theorem fa28_1 (k o : Nat) : vfieldAddr (tyOf Tryd.prog) 28 1 (.ptr k o) = some (.ptr k (o + 1)) := by kernel_rfl
theorem fd28_1 (cs : List MV) : vfield (tyOf Tryd.prog) 28 (.agg cs) 1 = vcell false 1 cs 1 := by kernel_rfl
theorem fc28_1 (cs : List MV) (o : Nat) : vfieldAddr (tyOf Tryd.prog) 28 1 (.cptr cs o) = some (.cptr cs (o + 1)) := by kernel_rfl
theorem fa28_2 (k o : Nat) : vfieldAddr (tyOf Tryd.prog) 28 2 (.ptr k o) = some (.ptr k (o + 2)) := by kernel_rfl
theorem fd28_2 (cs : List MV) : vfield (tyOf Tryd.prog) 28 (.agg cs) 2 = vcell false 1 cs 2 := by kernel_rfl
theorem fc28_2 (cs : List MV) (o : Nat) : vfieldAddr (tyOf Tryd.prog) 28 2 (.cptr cs o) = some (.cptr cs (o + 2)) := by kernel_rfl
theorem ty29 : tyOf Tryd.prog 29 = some ⟨Tryd.t29.desc, 3, 24, [.v (.bool false), .v (.bool false), .str []]⟩ := by kernel_rfl
theorem ag29 : isAggB Tryd.t29.desc = true := by kernel_rfl
theorem bd29 (p : List (Nat × MV)) : vbuild (tyOf Tryd.prog) 29 p = (vfill (placeL [(0, 1), (1, 1), (2, 1)]) [.v (.bool false), .v (.bool false), .str []] p).map .agg := by kernel_rfl
theorem fa29_0 (k o : Nat) : vfieldAddr (tyOf Tryd.prog) 29 0 (.ptr k o) = some (.ptr k (o + 0)) := by kernel_rfl
theorem fd29_0 (cs : List MV) : vfield (tyOf Tryd.prog) 29 (.agg cs) 0 = vcell false 1 cs 0 := by kernel_rfl
theorem fc29_0 (cs : List MV) (o : Nat) : vfieldAddr (tyOf Tryd.prog) 29 0 (.cptr cs o) = some (.cptr cs (o + 0)) := by kernel_rfl
theorem fa29_1 (k o : Nat) : vfieldAddr (tyOf Tryd.prog) 29 1 (.ptr k o) = some (.ptr k (o + 1)) := by kernel_rfl
theorem fd29_1 (cs : List MV) : vfield (tyOf Tryd.prog) 29 (.agg cs) 1 = vcell false 1 cs 1 := by kernel_rfl
theorem fc29_1 (cs : List MV) (o : Nat) : vfieldAddr (tyOf Tryd.prog) 29 1 (.cptr cs o) = some (.cptr cs (o + 1)) := by kernel_rfl
theorem fa29_2 (k o : Nat) : vfieldAddr (tyOf Tryd.prog) 29 2 (.ptr k o) = some (.ptr k (o + 2)) := by kernel_rfl
theorem fd29_2 (cs : List MV) : vfield (tyOf Tryd.prog) 29 (.agg cs) 2 = vcell false 1 cs 2 := by kernel_rfl
theorem fc29_2 (cs : List MV) (o : Nat) : vfieldAddr (tyOf Tryd.prog) 29 2 (.cptr cs o) = some (.cptr cs (o + 2)) := by kernel_rfl
theorem ty30 : tyOf Tryd.prog 30 = some ⟨Tryd.t29.desc, 3, 24, [.v (.bool false), .v (.bool false), .str []]⟩ := by kernel_rfl
theorem ag30 : isAggB Tryd.t29.desc = true := by kernel_rfl
theorem bd30 (p : List (Nat × MV)) : vbuild (tyOf Tryd.prog) 30 p = (vfill (placeL [(0, 1), (1, 1), (2, 1)]) [.v (.bool false), .v (.bool false), .str []] p).map .agg := by kernel_rfl
theorem fa30_0 (k o : Nat) : vfieldAddr (tyOf Tryd.prog) 30 0 (.ptr k o) = some (.ptr k (o + 0)) := by kernel_rfl
theorem fd30_0 (cs : List MV) : vfield (tyOf Tryd.prog) 30 (.agg cs) 0 = vcell false 1 cs 0 := by kernel_rfl
theorem fc30_0 (cs : List MV) (o : Nat) : vfieldAddr (tyOf Tryd.prog) 30 0 (.cptr cs o) = some (.cptr cs (o + 0)) := by kernel_rfl
theorem fa30_1 (k o : Nat) : vfieldAddr (tyOf Tryd.prog) 30 1 (.ptr k o) = some (.ptr k (o + 1)) := by kernel_rfl
theorem fd30_1 (cs : List MV) : vfield (tyOf Tryd.prog) 30 (.agg cs) 1 = vcell false 1 cs 1 := by kernel_rfl
theorem fc30_1 (cs : List MV) (o : Nat) : vfieldAddr (tyOf Tryd.prog) 30 1 (.cptr cs o) = some (.cptr cs (o + 1)) := by kernel_rfl
theorem fa30_2 (k o : Nat) : vfieldAddr (tyOf Tryd.prog) 30 2 (.ptr k o) = some (.ptr k (o + 2)) := by kernel_rfl
theorem fd30_2 (cs : List MV) : vfield (tyOf Tryd.prog) 30 (.agg cs) 2 = vcell false 1 cs 2 := by kernel_rfl
theorem fc30_2 (cs : List MV) (o : Nat) : vfieldAddr (tyOf Tryd.prog) 30 2 (.cptr cs o) = some (.cptr cs (o + 2)) := by kernel_rfl
theorem ty31 : tyOf Tryd.prog 31 = some ⟨Tryd.t31.desc, 1, 8, [.v .nilFunc]⟩ := by kernel_rfl
theorem ty32 : tyOf Tryd.prog 32 = some ⟨Tryd.t32.desc, 1, 8, [.v .nilFunc]⟩ := by kernel_rfl
theorem ty33 : tyOf Tryd.prog 33 = some ⟨Tryd.t33.desc, 1, 8, [.v .nilFunc]⟩ := by kernel_rfl
theorem ty34 : tyOf Tryd.prog 34 = some ⟨Tryd.t34.desc, 1, 8, [.v .nilFunc]⟩ := by kernel_rfl
theorem ty35 : tyOf Tryd.prog 35 = some ⟨Tryd.t35.desc, 1, 8, [.v .nilFunc]⟩ := by kernel_rfl
theorem ty36 : tyOf Tryd.prog 36 = some ⟨.int .u64, 1, 8, [.v (.int .u64 0)]⟩ := by kernel_rfl
theorem ty37 : tyOf Tryd.prog 37 = some ⟨.slice 5, 1, 24, [.sl 0 [] .nil]⟩ := by kernel_rfl
theorem ty38 : tyOf Tryd.prog 38 = some ⟨.slice 9, 1, 24, [.sl 0 [] .nil]⟩ := by kernel_rfl
theorem ty39 : tyOf Tryd.prog 39 = some ⟨Tryd.t39.desc, 1, 8, [.v .nilFunc]⟩ := by kernel_rfl
theorem ty40 : tyOf Tryd.prog 40 = some ⟨.int .u64, 1, 8, [.v (.int .u64 0)]⟩ := by kernel_rfl
theorem ty41 : tyOf Tryd.prog 41 = some ⟨Tryd.t41.desc, 1, 8, [.v .nilFunc]⟩ := by kernel_rfl
theorem ty42 : tyOf Tryd.prog 42 = some ⟨Tryd.t42.desc, 1, 8, [.v .nilFunc]⟩ := by kernel_rfl
theorem ty43 : tyOf Tryd.prog 43 = some ⟨Tryd.t43.desc, 1, 8, [.v .nilFunc]⟩ := by kernel_rfl
theorem ty45 : tyOf Tryd.prog 45 = some ⟨Tryd.t45.desc, 1, 8, [.v .nilFunc]⟩ := by kernel_rfl
theorem ty46 : tyOf Tryd.prog 46 = some ⟨Tryd.t46.desc, 1, 8, [.v .nilFunc]⟩ := by kernel_rfl
theorem ty47 : tyOf Tryd.prog 47 = some ⟨.slice 50, 1, 24, [.sl 0 [] .nil]⟩ := by kernel_rfl
theorem ty48 : tyOf Tryd.prog 48 = some ⟨Tryd.t48.desc, 1, 8, [.v .nilFunc]⟩ := by kernel_rfl
theorem ty49 : tyOf Tryd.prog 49 = some ⟨Tryd.t49.desc, 3, 24, [.str [], .v (.bool false), .v (.bool false)]⟩ := by kernel_rfl
theorem ag49 : isAggB Tryd.t49.desc = true := by kernel_rfl
theorem bd49 (p : List (Nat × MV)) : vbuild (tyOf Tryd.prog) 49 p = (vfill (placeL [(0, 1), (1, 1), (2, 1)]) [.str [], .v (.bool false), .v (.bool false)] p).map .agg := by kernel_rfl
theorem fa49_0 (k o : Nat) : vfieldAddr (tyOf Tryd.prog) 49 0 (.ptr k o) = some (.ptr k (o + 0)) := by kernel_rfl
theorem fd49_0 (cs : List MV) : vfield (tyOf Tryd.prog) 49 (.agg cs) 0 = vcell false 1 cs 0 := by kernel_rfl
theorem fc49_0 (cs : List MV) (o : Nat) : vfieldAddr (tyOf Tryd.prog) 49 0 (.cptr cs o) = some (.cptr cs (o + 0)) := by kernel_rfl
theorem fa49_1 (k o : Nat) : vfieldAddr (tyOf Tryd.prog) 49 1 (.ptr k o) = some (.ptr k (o + 1)) := by kernel_rfl
theorem fd49_1 (cs : List MV) : vfield (tyOf Tryd.prog) 49 (.agg cs) 1 = vcell false 1 cs 1 := by kernel_rfl
theorem fc49_1 (cs : List MV) (o : Nat) : vfieldAddr (tyOf Tryd.prog) 49 1 (.cptr cs o) = some (.cptr cs (o + 1)) := by kernel_rfl
theorem fa49_2 (k o : Nat) : vfieldAddr (tyOf Tryd.prog) 49 2 (.ptr k o) = some (.ptr k (o + 2)) := by kernel_rfl
theorem fd49_2 (cs : List MV) : vfield (tyOf Tryd.prog) 49 (.agg cs) 2 = vcell false 1 cs 2 := by kernel_rfl
theorem fc49_2 (cs : List MV) (o : Nat) : vfieldAddr (tyOf Tryd.prog) 49 2 (.cptr cs o) = some (.cptr cs (o + 2)) := by kernel_rfl
theorem ty50 : tyOf Tryd.prog 50 = some ⟨Tryd.t49.desc, 3, 24, [.str [], .v (.bool false), .v (.bool false)]⟩ := by kernel_rfl
theorem ag50 : isAggB Tryd.t49.desc = true := by kernel_rfl
theorem bd50 (p : List (Nat × MV)) : vbuild (tyOf Tryd.prog) 50 p = (vfill (placeL [(0, 1), (1, 1), (2, 1)]) [.str [], .v (.bool false), .v (.bool false)] p).map .agg := by kernel_rfl
theorem fa50_0 (k o : Nat) : vfieldAddr (tyOf Tryd.prog) 50 0 (.ptr k o) = some (.ptr k (o + 0)) := by kernel_rfl
theorem fd50_0 (cs : List MV) : vfield (tyOf Tryd.prog) 50 (.agg cs) 0 = vcell false 1 cs 0 := by kernel_rfl
theorem fc50_0 (cs : List MV) (o : Nat) : vfieldAddr (tyOf Tryd.prog) 50 0 (.cptr cs o) = some (.cptr cs (o + 0)) := by kernel_rfl
theorem fa50_1 (k o : Nat) : vfieldAddr (tyOf Tryd.prog) 50 1 (.ptr k o) = some (.ptr k (o + 1)) := by kernel_rfl
theorem fd50_1 (cs : List MV) : vfield (tyOf Tryd.prog) 50 (.agg cs) 1 = vcell false 1 cs 1 := by kernel_rfl
theorem fc50_1 (cs : List MV) (o : Nat) : vfieldAddr (tyOf Tryd.prog) 50 1 (.cptr cs o) = some (.cptr cs (o + 1)) := by kernel_rfl
theorem fa50_2 (k o : Nat) : vfieldAddr (tyOf Tryd.prog) 50 2 (.ptr k o) = some (.ptr k (o + 2)) := by kernel_rfl
theorem fd50_2 (cs : List MV) : vfield (tyOf Tryd.prog) 50 (.agg cs) 2 = vcell false 1 cs 2 := by kernel_rfl
theorem fc50_2 (cs : List MV) (o : Nat) : vfieldAddr (tyOf Tryd.prog) 50 2 (.cptr cs o) = some (.cptr cs (o + 2)) := by kernel_rfl
theorem ty51 : tyOf Tryd.prog 51 = some ⟨Tryd.t51.desc, 1, 8, [.v .nilFunc]⟩ := by kernel_rfl
theorem ty52 : tyOf Tryd.prog 52 = some ⟨Tryd.t52.desc, 1, 8, [.v .nilFunc]⟩ := by kernel_rfl
theorem ty53 : tyOf Tryd.prog 53 = some ⟨Tryd.t53.desc, 1, 8, [.v .nilFunc]⟩ := by kernel_rfl
theorem ty54 : tyOf Tryd.prog 54 = some ⟨Tryd.t54.desc, 1, 8, [.v .nilFunc]⟩ := by kernel_rfl
theorem ty55 : tyOf Tryd.prog 55 = some ⟨.slice 4, 1, 24, [.sl 0 [] .nil]⟩ := by kernel_rfl
theorem ty56 : tyOf Tryd.prog 56 = some ⟨Tryd.t56.desc, 1, 8, [.v .nilFunc]⟩ := by kernel_rfl
theorem ty57 : tyOf Tryd.prog 57 = some ⟨Tryd.t57.desc, 1, 8, [.v .nilFunc]⟩ := by kernel_rfl
theorem ty58 : tyOf Tryd.prog 58 = some ⟨.pointer 60, 1, 8, [.v (.pointer none)]⟩ := by kernel_rfl
theorem ty59 : tyOf Tryd.prog 59 = some ⟨Tryd.t59.desc, 2, 32, [.v (.pointer none), .sl 0 [] .nil]⟩ := by kernel_rfl
theorem ag59 : isAggB Tryd.t59.desc = true := by kernel_rfl
theorem bd59 (p : List (Nat × MV)) : vbuild (tyOf Tryd.prog) 59 p = (vfill (placeL [(0, 1), (1, 1)]) [.v (.pointer none), .sl 0 [] .nil] p).map .agg := by kernel_rfl
theorem fa59_0 (k o : Nat) : vfieldAddr (tyOf Tryd.prog) 59 0 (.ptr k o) = some (.ptr k (o + 0)) := by kernel_rfl
theorem fd59_0 (cs : List MV) : vfield (tyOf Tryd.prog) 59 (.agg cs) 0 = vcell false 1 cs 0 := by kernel_rfl
theorem fc59_0 (cs : List MV) (o : Nat) : vfieldAddr (tyOf Tryd.prog) 59 0 (.cptr cs o) = some (.cptr cs (o + 0)) := by kernel_rfl
theorem fa59_1 (k o : Nat) : vfieldAddr (tyOf Tryd.prog) 59 1 (.ptr k o) = some (.ptr k (o + 1)) := by kernel_rfl
theorem fd59_1 (cs : List MV) : vfield (tyOf Tryd.prog) 59 (.agg cs) 1 = vcell false 1 cs 1 := by kernel_rfl
theorem fc59_1 (cs : List MV) (o : Nat) : vfieldAddr (tyOf Tryd.prog) 59 1 (.cptr cs o) = some (.cptr cs (o + 1)) := by kernel_rfl
theorem ty60 : tyOf Tryd.prog 60 = some ⟨Tryd.t59.desc, 2, 32, [.v (.pointer none), .sl 0 [] .nil]⟩ := by kernel_rfl
theorem ag60 : isAggB Tryd.t59.desc = true := by kernel_rfl
theorem bd60 (p : List (Nat × MV)) : vbuild (tyOf Tryd.prog) 60 p = (vfill (placeL [(0, 1), (1, 1)]) [.v (.pointer none), .sl 0 [] .nil] p).map .agg := by kernel_rfl
theorem fa60_0 (k o : Nat) : vfieldAddr (tyOf Tryd.prog) 60 0 (.ptr k o) = some (.ptr k (o + 0)) := by kernel_rfl
theorem fd60_0 (cs : List MV) : vfield (tyOf Tryd.prog) 60 (.agg cs) 0 = vcell false 1 cs 0 := by kernel_rfl
theorem fc60_0 (cs : List MV) (o : Nat) : vfieldAddr (tyOf Tryd.prog) 60 0 (.cptr cs o) = some (.cptr cs (o + 0)) := by kernel_rfl
theorem fa60_1 (k o : Nat) : vfieldAddr (tyOf Tryd.prog) 60 1 (.ptr k o) = some (.ptr k (o + 1)) := by kernel_rfl
theorem fd60_1 (cs : List MV) : vfield (tyOf Tryd.prog) 60 (.agg cs) 1 = vcell false 1 cs 1 := by kernel_rfl
theorem fc60_1 (cs : List MV) (o : Nat) : vfieldAddr (tyOf Tryd.prog) 60 1 (.cptr cs o) = some (.cptr cs (o + 1)) := by kernel_rfl
theorem ty61 : tyOf Tryd.prog 61 = some ⟨Tryd.t61.desc, 1, 16, [.v .nilIface]⟩ := by kernel_rfl
theorem ty62 : tyOf Tryd.prog 62 = some ⟨Tryd.t61.desc, 1, 16, [.v .nilIface]⟩ := by kernel_rfl
theorem ty63 : tyOf Tryd.prog 63 = some ⟨Tryd.t63.desc, 1, 8, [.v .nilFunc]⟩ := by kernel_rfl
theorem ty65 : tyOf Tryd.prog 65 = some ⟨Tryd.t65.desc, 1, 8, [.v .nilFunc]⟩ := by kernel_rfl
theorem ty66 : tyOf Tryd.prog 66 = some ⟨Tryd.t66.desc, 1, 8, [.v .nilFunc]⟩ := by kernel_rfl
theorem ty67 : tyOf Tryd.prog 67 = some ⟨Tryd.t67.desc, 1, 8, [.v .nilFunc]⟩ := by kernel_rfl
theorem ty68 : tyOf Tryd.prog 68 = some ⟨Tryd.t68.desc, 1, 8, [.v .nilFunc]⟩ := by kernel_rfl
theorem ty69 : tyOf Tryd.prog 69 = some ⟨Tryd.t69.desc, 1, 8, [.v .nilFunc]⟩ := by kernel_rfl
theorem ty70 : tyOf Tryd.prog 70 = some ⟨Tryd.t70.desc, 1, 8, [.v .nilFunc]⟩ := by kernel_rfl
theorem ty71 : tyOf Tryd.prog 71 = some ⟨Tryd.t71.desc, 1, 8, [.v .nilFunc]⟩ := by kernel_rfl
theorem ty72 : tyOf Tryd.prog 72 = some ⟨Tryd.t72.desc, 1, 8, [.v .nilFunc]⟩ := by kernel_rfl
theorem ty76 : tyOf Tryd.prog 76 = some ⟨Tryd.t76.desc, 1, 8, [.v .nilFunc]⟩ := by kernel_rfl
theorem ty77 : tyOf Tryd.prog 77 = some ⟨Tryd.t77.desc, 1, 8, [.v .nilFunc]⟩ := by kernel_rfl
theorem ty78 : tyOf Tryd.prog 78 = some ⟨.pointer 74, 1, 8, [.v (.pointer none)]⟩ := by kernel_rfl
theorem ty79 : tyOf Tryd.prog 79 = some ⟨.pointer 5, 1, 8, [.v (.pointer none)]⟩ := by kernel_rfl
theorem ty80 : tyOf Tryd.prog 80 = some ⟨Tryd.t80.desc, 1, 8, [.v .nilFunc]⟩ := by kernel_rfl
theorem ty81 : tyOf Tryd.prog 81 = some ⟨Tryd.t81.desc, 1, 8, [.v .nilFunc]⟩ := by kernel_rfl
theorem ty82 : tyOf Tryd.prog 82 = some ⟨Tryd.t82.desc, 1, 8, [.v .nilFunc]⟩ := by kernel_rfl
theorem ty84 : tyOf Tryd.prog 84 = some ⟨Tryd.t84.desc, 1, 8, [.v .nilFunc]⟩ := by kernel_rfl
theorem ty85 : tyOf Tryd.prog 85 = some ⟨Tryd.t85.desc, 1, 8, [.v .nilFunc]⟩ := by kernel_rfl
theorem ty86 : tyOf Tryd.prog 86 = some ⟨.unsafePointer, 1, 8, [.v (.pointer none)]⟩ := by kernel_rfl
theorem ty87 : tyOf Tryd.prog 87 = some ⟨Tryd.t87.desc, 1, 8, [.v .nilFunc]⟩ := by kernel_rfl
theorem ty88 : tyOf Tryd.prog 88 = some ⟨Tryd.t88.desc, 1, 8, [.v .nilFunc]⟩ := by kernel_rfl
theorem ty89 : tyOf Tryd.prog 89 = some ⟨Tryd.t89.desc, 1, 8, [.v .nilFunc]⟩ := by kernel_rfl
theorem ty90 : tyOf Tryd.prog 90 = some ⟨Tryd.t90.desc, 1, 8, [.v .nilFunc]⟩ := by kernel_rfl
theorem ty91 : tyOf Tryd.prog 91 = some ⟨Tryd.t91.desc, 1, 8, [.v .nilFunc]⟩ := by kernel_rfl
theorem ty92 : tyOf Tryd.prog 92 = some ⟨Tryd.t92.desc, 1, 8, [.v .nilFunc]⟩ := by kernel_rfl
theorem ty93 : tyOf Tryd.prog 93 = some ⟨Tryd.t93.desc, 1, 8, [.v .nilFunc]⟩ := by kernel_rfl
theorem ty95 : tyOf Tryd.prog 95 = some ⟨Tryd.t95.desc, 2, 2, [.v (.int .u8 0), .v (.int .u8 0)]⟩ := by kernel_rfl
theorem ag95 : isAggB Tryd.t95.desc = true := by kernel_rfl
theorem bd95 (p : List (Nat × MV)) : vbuild (tyOf Tryd.prog) 95 p = (vfill (placeL [(0, 1), (1, 1)]) [.v (.int .u8 0), .v (.int .u8 0)] p).map .agg := by kernel_rfl
theorem fa95_0 (k o : Nat) : vfieldAddr (tyOf Tryd.prog) 95 0 (.ptr k o) = some (.ptr k (o + 0)) := by kernel_rfl
theorem fd95_0 (cs : List MV) : vfield (tyOf Tryd.prog) 95 (.agg cs) 0 = vcell false 1 cs 0 := by kernel_rfl
theorem fc95_0 (cs : List MV) (o : Nat) : vfieldAddr (tyOf Tryd.prog) 95 0 (.cptr cs o) = some (.cptr cs (o + 0)) := by kernel_rfl
theorem fa95_1 (k o : Nat) : vfieldAddr (tyOf Tryd.prog) 95 1 (.ptr k o) = some (.ptr k (o + 1)) := by kernel_rfl
theorem fd95_1 (cs : List MV) : vfield (tyOf Tryd.prog) 95 (.agg cs) 1 = vcell false 1 cs 1 := by kernel_rfl
theorem fc95_1 (cs : List MV) (o : Nat) : vfieldAddr (tyOf Tryd.prog) 95 1 (.cptr cs o) = some (.cptr cs (o + 1)) := by kernel_rfl
theorem ty96 : tyOf Tryd.prog 96 = some ⟨Tryd.t95.desc, 2, 2, [.v (.int .u8 0), .v (.int .u8 0)]⟩ := by kernel_rfl
theorem ag96 : isAggB Tryd.t95.desc = true := by kernel_rfl
theorem bd96 (p : List (Nat × MV)) : vbuild (tyOf Tryd.prog) 96 p = (vfill (placeL [(0, 1), (1, 1)]) [.v (.int .u8 0), .v (.int .u8 0)] p).map .agg := by kernel_rfl
theorem fa96_0 (k o : Nat) : vfieldAddr (tyOf Tryd.prog) 96 0 (.ptr k o) = some (.ptr k (o + 0)) := by kernel_rfl
theorem fd96_0 (cs : List MV) : vfield (tyOf Tryd.prog) 96 (.agg cs) 0 = vcell false 1 cs 0 := by kernel_rfl
theorem fc96_0 (cs : List MV) (o : Nat) : vfieldAddr (tyOf Tryd.prog) 96 0 (.cptr cs o) = some (.cptr cs (o + 0)) := by kernel_rfl
theorem fa96_1 (k o : Nat) : vfieldAddr (tyOf Tryd.prog) 96 1 (.ptr k o) = some (.ptr k (o + 1)) := by kernel_rfl
theorem fd96_1 (cs : List MV) : vfield (tyOf Tryd.prog) 96 (.agg cs) 1 = vcell false 1 cs 1 := by kernel_rfl
theorem fc96_1 (cs : List MV) (o : Nat) : vfieldAddr (tyOf Tryd.prog) 96 1 (.cptr cs o) = some (.cptr cs (o + 1)) := by kernel_rfl
theorem ty97 : tyOf Tryd.prog 97 = some ⟨.array 16 96, 32, 32, [.v (.int .u8 0), .v (.int .u8 0), .v (.int .u8 0), .v (.int .u8 0), .v (.int .u8 0), .v (.int .u8 0), .v (.int .u8 0), .v (.int .u8 0), .v (.int .u8 0), .v (.int .u8 0), .v (.int .u8 0), .v (.int .u8 0), .v (.int .u8 0), .v (.int .u8 0), .v (.int .u8 0), .v (.int .u8 0), .v (.int .u8 0), .v (.int .u8 0), .v (.int .u8 0), .v (.int .u8 0), .v (.int .u8 0), .v (.int .u8 0), .v (.int .u8 0), .v (.int .u8 0), .v (.int .u8 0), .v (.int .u8 0), .v (.int .u8 0), .v (.int .u8 0), .v (.int .u8 0), .v (.int .u8 0), .v (.int .u8 0), .v (.int .u8 0)]⟩ := by kernel_rfl
theorem ty98 : tyOf Tryd.prog 98 = some ⟨Tryd.t98.desc, 1, 8, [.v .nilFunc]⟩ := by kernel_rfl
theorem ty99 : tyOf Tryd.prog 99 = some ⟨.int .u32, 1, 4, [.v (.int .u32 0)]⟩ := by kernel_rfl
theorem ty101 : tyOf Tryd.prog 101 = some ⟨Tryd.t101.desc, 1, 8, [.v .nilFunc]⟩ := by kernel_rfl
theorem ty102 : tyOf Tryd.prog 102 = some ⟨Tryd.t102.desc, 4, 40, [.v (.pointer none), .v (.pointer none), .v (.pointer none), .str []]⟩ := by kernel_rfl
theorem ag102 : isAggB Tryd.t102.desc = true := by kernel_rfl
theorem bd102 (p : List (Nat × MV)) : vbuild (tyOf Tryd.prog) 102 p = (vfill (placeL [(0, 1), (1, 1), (2, 1), (3, 1)]) [.v (.pointer none), .v (.pointer none), .v (.pointer none), .str []] p).map .agg := by kernel_rfl
theorem fa102_0 (k o : Nat) : vfieldAddr (tyOf Tryd.prog) 102 0 (.ptr k o) = some (.ptr k (o + 0)) := by kernel_rfl
theorem fd102_0 (cs : List MV) : vfield (tyOf Tryd.prog) 102 (.agg cs) 0 = vcell false 1 cs 0 := by kernel_rfl
theorem fc102_0 (cs : List MV) (o : Nat) : vfieldAddr (tyOf Tryd.prog) 102 0 (.cptr cs o) = some (.cptr cs (o + 0)) := by kernel_rfl
theorem fa102_1 (k o : Nat) : vfieldAddr (tyOf Tryd.prog) 102 1 (.ptr k o) = some (.ptr k (o + 1)) := by kernel_rfl
theorem fd102_1 (cs : List MV) : vfield (tyOf Tryd.prog) 102 (.agg cs) 1 = vcell false 1 cs 1 := by kernel_rfl
theorem fc102_1 (cs : List MV) (o : Nat) : vfieldAddr (tyOf Tryd.prog) 102 1 (.cptr cs o) = some (.cptr cs (o + 1)) := by kernel_rfl
theorem fa102_2 (k o : Nat) : vfieldAddr (tyOf Tryd.prog) 102 2 (.ptr k o) = some (.ptr k (o + 2)) := by kernel_rfl
theorem fd102_2 (cs : List MV) : vfield (tyOf Tryd.prog) 102 (.agg cs) 2 = vcell false 1 cs 2 := by kernel_rfl
theorem fc102_2 (cs : List MV) (o : Nat) : vfieldAddr (tyOf Tryd.prog) 102 2 (.cptr cs o) = some (.cptr cs (o + 2)) := by kernel_rfl
theorem fa102_3 (k o : Nat) : vfieldAddr (tyOf Tryd.prog) 102 3 (.ptr k o) = some (.ptr k (o + 3)) := by kernel_rfl
theorem fd102_3 (cs : List MV) : vfield (tyOf Tryd.prog) 102 (.agg cs) 3 = vcell false 1 cs 3 := by kernel_rfl
theorem fc102_3 (cs : List MV) (o : Nat) : vfieldAddr (tyOf Tryd.prog) 102 3 (.cptr cs o) = some (.cptr cs (o + 3)) := by kernel_rfl
theorem ty103 : tyOf Tryd.prog 103 = some ⟨Tryd.t102.desc, 4, 40, [.v (.pointer none), .v (.pointer none), .v (.pointer none), .str []]⟩ := by kernel_rfl
theorem ag103 : isAggB Tryd.t102.desc = true := by kernel_rfl
theorem bd103 (p : List (Nat × MV)) : vbuild (tyOf Tryd.prog) 103 p = (vfill (placeL [(0, 1), (1, 1), (2, 1), (3, 1)]) [.v (.pointer none), .v (.pointer none), .v (.pointer none), .str []] p).map .agg := by kernel_rfl
theorem fa103_0 (k o : Nat) : vfieldAddr (tyOf Tryd.prog) 103 0 (.ptr k o) = some (.ptr k (o + 0)) := by kernel_rfl
theorem fd103_0 (cs : List MV) : vfield (tyOf Tryd.prog) 103 (.agg cs) 0 = vcell false 1 cs 0 := by kernel_rfl
theorem fc103_0 (cs : List MV) (o : Nat) : vfieldAddr (tyOf Tryd.prog) 103 0 (.cptr cs o) = some (.cptr cs (o + 0)) := by kernel_rfl
theorem fa103_1 (k o : Nat) : vfieldAddr (tyOf Tryd.prog) 103 1 (.ptr k o) = some (.ptr k (o + 1)) := by kernel_rfl
theorem fd103_1 (cs : List MV) : vfield (tyOf Tryd.prog) 103 (.agg cs) 1 = vcell false 1 cs 1 := by kernel_rfl
theorem fc103_1 (cs : List MV) (o : Nat) : vfieldAddr (tyOf Tryd.prog) 103 1 (.cptr cs o) = some (.cptr cs (o + 1)) := by kernel_rfl
theorem fa103_2 (k o : Nat) : vfieldAddr (tyOf Tryd.prog) 103 2 (.ptr k o) = some (.ptr k (o + 2)) := by kernel_rfl
theorem fd103_2 (cs : List MV) : vfield (tyOf Tryd.prog) 103 (.agg cs) 2 = vcell false 1 cs 2 := by kernel_rfl
theorem fc103_2 (cs : List MV) (o : Nat) : vfieldAddr (tyOf Tryd.prog) 103 2 (.cptr cs o) = some (.cptr cs (o + 2)) := by kernel_rfl
theorem fa103_3 (k o : Nat) : vfieldAddr (tyOf Tryd.prog) 103 3 (.ptr k o) = some (.ptr k (o + 3)) := by kernel_rfl
theorem fd103_3 (cs : List MV) : vfield (tyOf Tryd.prog) 103 (.agg cs) 3 = vcell false 1 cs 3 := by kernel_rfl
theorem fc103_3 (cs : List MV) (o : Nat) : vfieldAddr (tyOf Tryd.prog) 103 3 (.cptr cs o) = some (.cptr cs (o + 3)) := by kernel_rfl
theorem ty104 : tyOf Tryd.prog 104 = some ⟨.array 0 16, 0, 0, []⟩ := by kernel_rfl
theorem ty105 : tyOf Tryd.prog 105 = some ⟨Tryd.t105.desc, 0, 0, []⟩ := by kernel_rfl
theorem ag105 : isAggB Tryd.t105.desc = true := by kernel_rfl
theorem bd105 (p : List (Nat × MV)) : vbuild (tyOf Tryd.prog) 105 p = (vfill (placeL [(0, 0)]) [] p).map .agg := by kernel_rfl
theorem ty106 : tyOf Tryd.prog 106 = some ⟨Tryd.t105.desc, 0, 0, []⟩ := by kernel_rfl
theorem ag106 : isAggB Tryd.t105.desc = true := by kernel_rfl
theorem bd106 (p : List (Nat × MV)) : vbuild (tyOf Tryd.prog) 106 p = (vfill (placeL [(0, 0)]) [] p).map .agg := by kernel_rfl
theorem ty107 : tyOf Tryd.prog 107 = some ⟨Tryd.t107.desc, 1, 8, [.v .nilFunc]⟩ := by kernel_rfl
theorem ty108 : tyOf Tryd.prog 108 = some ⟨.int .u8, 1, 1, [.v (.int .u8 0)]⟩ := by kernel_rfl
theorem ty109 : tyOf Tryd.prog 109 = some ⟨.int .u8, 1, 1, [.v (.int .u8 0)]⟩ := by kernel_rfl
theorem ty110 : tyOf Tryd.prog 110 = some ⟨Tryd.t110.desc, 1, 8, [.v .nilFunc]⟩ := by kernel_rfl
theorem ty111 : tyOf Tryd.prog 111 = some ⟨.int .i32, 1, 4, [.v (.int .i32 0)]⟩ := by kernel_rfl
theorem ty112 : tyOf Tryd.prog 112 = some ⟨.int .i32, 1, 4, [.v (.int .i32 0)]⟩ := by kernel_rfl
theorem ty113 : tyOf Tryd.prog 113 = some ⟨Tryd.t113.desc, 11, 48, [.v (.int .u64 0), .v (.int .u64 0), .v (.int .u32 0), .v (.int .u8 0), .v (.int .u8 0), .v (.int .u8 0), .v (.int .u8 0), .v .nilFunc, .v (.pointer none), .v (.int .i32 0), .v (.int .i32 0)]⟩ := by kernel_rfl
theorem ag113 : isAggB Tryd.t113.desc = true := by kernel_rfl
theorem bd113 (p : List (Nat × MV)) : vbuild (tyOf Tryd.prog) 113 p = (vfill (placeL [(0, 1), (1, 1), (2, 1), (3, 1), (4, 1), (5, 1), (6, 1), (7, 1), (8, 1), (9, 1), (10, 1)]) [.v (.int .u64 0), .v (.int .u64 0), .v (.int .u32 0), .v (.int .u8 0), .v (.int .u8 0), .v (.int .u8 0), .v (.int .u8 0), .v .nilFunc, .v (.pointer none), .v (.int .i32 0), .v (.int .i32 0)] p).map .agg := by kernel_rfl
theorem fa113_0 (k o : Nat) : vfieldAddr (tyOf Tryd.prog) 113 0 (.ptr k o) = some (.ptr k (o + 0)) := by kernel_rfl
theorem fd113_0 (cs : List MV) : vfield (tyOf Tryd.prog) 113 (.agg cs) 0 = vcell false 1 cs 0 := by kernel_rfl
theorem fc113_0 (cs : List MV) (o : Nat) : vfieldAddr (tyOf Tryd.prog) 113 0 (.cptr cs o) = some (.cptr cs (o + 0)) := by kernel_rfl
theorem fa113_1 (k o : Nat) : vfieldAddr (tyOf Tryd.prog) 113 1 (.ptr k o) = some (.ptr k (o + 1)) := by kernel_rfl
theorem fd113_1 (cs : List MV) : vfield (tyOf Tryd.prog) 113 (.agg cs) 1 = vcell false 1 cs 1 := by kernel_rfl
theorem fc113_1 (cs : List MV) (o : Nat) : vfieldAddr (tyOf Tryd.prog) 113 1 (.cptr cs o) = some (.cptr cs (o + 1)) := by kernel_rfl
theorem fa113_2 (k o : Nat) : vfieldAddr (tyOf Tryd.prog) 113 2 (.ptr k o) = some (.ptr k (o + 2)) := by kernel_rfl
theorem fd113_2 (cs : List MV) : vfield (tyOf Tryd.prog) 113 (.agg cs) 2 = vcell false 1 cs 2 := by kernel_rfl
theorem fc113_2 (cs : List MV) (o : Nat) : vfieldAddr (tyOf Tryd.prog) 113 2 (.cptr cs o) = some (.cptr cs (o + 2)) := by kernel_rfl
theorem fa113_3 (k o : Nat) : vfieldAddr (tyOf Tryd.prog) 113 3 (.ptr k o) = some (.ptr k (o + 3)) := by kernel_rfl
theorem fd113_3 (cs : List MV) : vfield (tyOf Tryd.prog) 113 (.agg cs) 3 = vcell false 1 cs 3 := by kernel_rfl
theorem fc113_3 (cs : List MV) (o : Nat) : vfieldAddr (tyOf Tryd.prog) 113 3 (.cptr cs o) = some (.cptr cs (o + 3)) := by kernel_rfl
theorem fa113_4 (k o : Nat) : vfieldAddr (tyOf Tryd.prog) 113 4 (.ptr k o) = some (.ptr k (o + 4)) := by kernel_rfl
theorem fd113_4 (cs : List MV) : vfield (tyOf Tryd.prog) 113 (.agg cs) 4 = vcell false 1 cs 4 := by kernel_rfl
theorem fc113_4 (cs : List MV) (o : Nat) : vfieldAddr (tyOf Tryd.prog) 113 4 (.cptr cs o) = some (.cptr cs (o + 4)) := by kernel_rfl
theorem fa113_5 (k o : Nat) : vfieldAddr (tyOf Tryd.prog) 113 5 (.ptr k o) = some (.ptr k (o + 5)) := by kernel_rfl
theorem fd113_5 (cs : List MV) : vfield (tyOf Tryd.prog) 113 (.agg cs) 5 = vcell false 1 cs 5 := by kernel_rfl
theorem fc113_5 (cs : List MV) (o : Nat) : vfieldAddr (tyOf Tryd.prog) 113 5 (.cptr cs o) = some (.cptr cs (o + 5)) := by kernel_rfl
theorem fa113_6 (k o : Nat) : vfieldAddr (tyOf Tryd.prog) 113 6 (.ptr k o) = some (.ptr k (o + 6)) := by kernel_rfl
theorem fd113_6 (cs : List MV) : vfield (tyOf Tryd.prog) 113 (.agg cs) 6 = vcell false 1 cs 6 := by kernel_rfl
theorem fc113_6 (cs : List MV) (o : Nat) : vfieldAddr (tyOf Tryd.prog) 113 6 (.cptr cs o) = some (.cptr cs (o + 6)) := by kernel_rfl
theorem fa113_7 (k o : Nat) : vfieldAddr (tyOf Tryd.prog) 113 7 (.ptr k o) = some (.ptr k (o + 7)) := by kernel_rfl
theorem fd113_7 (cs : List MV) : vfield (tyOf Tryd.prog) 113 (.agg cs) 7 = vcell false 1 cs 7 := by kernel_rfl
theorem fc113_7 (cs : List MV) (o : Nat) : vfieldAddr (tyOf Tryd.prog) 113 7 (.cptr cs o) = some (.cptr cs (o + 7)) := by kernel_rfl
theorem fa113_8 (k o : Nat) : vfieldAddr (tyOf Tryd.prog) 113 8 (.ptr k o) = some (.ptr k (o + 8)) := by kernel_rfl
theorem fd113_8 (cs : List MV) : vfield (tyOf Tryd.prog) 113 (.agg cs) 8 = vcell false 1 cs 8 := by kernel_rfl
theorem fc113_8 (cs : List MV) (o : Nat) : vfieldAddr (tyOf Tryd.prog) 113 8 (.cptr cs o) = some (.cptr cs (o + 8)) := by kernel_rfl
theorem fa113_9 (k o : Nat) : vfieldAddr (tyOf Tryd.prog) 113 9 (.ptr k o) = some (.ptr k (o + 9)) := by kernel_rfl
theorem fd113_9 (cs : List MV) : vfield (tyOf Tryd.prog) 113 (.agg cs) 9 = vcell false 1 cs 9 := by kernel_rfl
theorem fc113_9 (cs : List MV) (o : Nat) : vfieldAddr (tyOf Tryd.prog) 113 9 (.cptr cs o) = some (.cptr cs (o + 9)) := by kernel_rfl
theorem fa113_10 (k o : Nat) : vfieldAddr (tyOf Tryd.prog) 113 10 (.ptr k o) = some (.ptr k (o + 10)) := by kernel_rfl
theorem fd113_10 (cs : List MV) : vfield (tyOf Tryd.prog) 113 (.agg cs) 10 = vcell false 1 cs 10 := by kernel_rfl
theorem fc113_10 (cs : List MV) (o : Nat) : vfieldAddr (tyOf Tryd.prog) 113 10 (.cptr cs o) = some (.cptr cs (o + 10)) := by kernel_rfl
theorem ty114 : tyOf Tryd.prog 114 = some ⟨Tryd.t113.desc, 11, 48, [.v (.int .u64 0), .v (.int .u64 0), .v (.int .u32 0), .v (.int .u8 0), .v (.int .u8 0), .v (.int .u8 0), .v (.int .u8 0), .v .nilFunc, .v (.pointer none), .v (.int .i32 0), .v (.int .i32 0)]⟩ := by kernel_rfl
theorem ag114 : isAggB Tryd.t113.desc = true := by kernel_rfl
theorem bd114 (p : List (Nat × MV)) : vbuild (tyOf Tryd.prog) 114 p = (vfill (placeL [(0, 1), (1, 1), (2, 1), (3, 1), (4, 1), (5, 1), (6, 1), (7, 1), (8, 1), (9, 1), (10, 1)]) [.v (.int .u64 0), .v (.int .u64 0), .v (.int .u32 0), .v (.int .u8 0), .v (.int .u8 0), .v (.int .u8 0), .v (.int .u8 0), .v .nilFunc, .v (.pointer none), .v (.int .i32 0), .v (.int .i32 0)] p).map .agg := by kernel_rfl
theorem fa114_0 (k o : Nat) : vfieldAddr (tyOf Tryd.prog) 114 0 (.ptr k o) = some (.ptr k (o + 0)) := by kernel_rfl
theorem fd114_0 (cs : List MV) : vfield (tyOf Tryd.prog) 114 (.agg cs) 0 = vcell false 1 cs 0 := by kernel_rfl
theorem fc114_0 (cs : List MV) (o : Nat) : vfieldAddr (tyOf Tryd.prog) 114 0 (.cptr cs o) = some (.cptr cs (o + 0)) := by kernel_rfl
theorem fa114_1 (k o : Nat) : vfieldAddr (tyOf Tryd.prog) 114 1 (.ptr k o) = some (.ptr k (o + 1)) := by kernel_rfl
theorem fd114_1 (cs : List MV) : vfield (tyOf Tryd.prog) 114 (.agg cs) 1 = vcell false 1 cs 1 := by kernel_rfl
theorem fc114_1 (cs : List MV) (o : Nat) : vfieldAddr (tyOf Tryd.prog) 114 1 (.cptr cs o) = some (.cptr cs (o + 1)) := by kernel_rfl
theorem fa114_2 (k o : Nat) : vfieldAddr (tyOf Tryd.prog) 114 2 (.ptr k o) = some (.ptr k (o + 2)) := by kernel_rfl
theorem fd114_2 (cs : List MV) : vfield (tyOf Tryd.prog) 114 (.agg cs) 2 = vcell false 1 cs 2 := by kernel_rfl
theorem fc114_2 (cs : List MV) (o : Nat) : vfieldAddr (tyOf Tryd.prog) 114 2 (.cptr cs o) = some (.cptr cs (o + 2)) := by kernel_rfl
theorem fa114_3 (k o : Nat) : vfieldAddr (tyOf Tryd.prog) 114 3 (.ptr k o) = some (.ptr k (o + 3)) := by kernel_rfl
theorem fd114_3 (cs : List MV) : vfield (tyOf Tryd.prog) 114 (.agg cs) 3 = vcell false 1 cs 3 := by kernel_rfl
theorem fc114_3 (cs : List MV) (o : Nat) : vfieldAddr (tyOf Tryd.prog) 114 3 (.cptr cs o) = some (.cptr cs (o + 3)) := by kernel_rfl
theorem fa114_4 (k o : Nat) : vfieldAddr (tyOf Tryd.prog) 114 4 (.ptr k o) = some (.ptr k (o + 4)) := by kernel_rfl
theorem fd114_4 (cs : List MV) : vfield (tyOf Tryd.prog) 114 (.agg cs) 4 = vcell false 1 cs 4 := by kernel_rfl
theorem fc114_4 (cs : List MV) (o : Nat) : vfieldAddr (tyOf Tryd.prog) 114 4 (.cptr cs o) = some (.cptr cs (o + 4)) := by kernel_rfl
theorem fa114_5 (k o : Nat) : vfieldAddr (tyOf Tryd.prog) 114 5 (.ptr k o) = some (.ptr k (o + 5)) := by kernel_rfl
theorem fd114_5 (cs : List MV) : vfield (tyOf Tryd.prog) 114 (.agg cs) 5 = vcell false 1 cs 5 := by kernel_rfl
theorem fc114_5 (cs : List MV) (o : Nat) : vfieldAddr (tyOf Tryd.prog) 114 5 (.cptr cs o) = some (.cptr cs (o + 5)) := by kernel_rfl
theorem fa114_6 (k o : Nat) : vfieldAddr (tyOf Tryd.prog) 114 6 (.ptr k o) = some (.ptr k (o + 6)) := by kernel_rfl
theorem fd114_6 (cs : List MV) : vfield (tyOf Tryd.prog) 114 (.agg cs) 6 = vcell false 1 cs 6 := by kernel_rfl
theorem fc114_6 (cs : List MV) (o : Nat) : vfieldAddr (tyOf Tryd.prog) 114 6 (.cptr cs o) = some (.cptr cs (o + 6)) := by kernel_rfl
theorem fa114_7 (k o : Nat) : vfieldAddr (tyOf Tryd.prog) 114 7 (.ptr k o) = some (.ptr k (o + 7)) := by kernel_rfl
theorem fd114_7 (cs : List MV) : vfield (tyOf Tryd.prog) 114 (.agg cs) 7 = vcell false 1 cs 7 := by kernel_rfl
theorem fc114_7 (cs : List MV) (o : Nat) : vfieldAddr (tyOf Tryd.prog) 114 7 (.cptr cs o) = some (.cptr cs (o + 7)) := by kernel_rfl
theorem fa114_8 (k o : Nat) : vfieldAddr (tyOf Tryd.prog) 114 8 (.ptr k o) = some (.ptr k (o + 8)) := by kernel_rfl
theorem fd114_8 (cs : List MV) : vfield (tyOf Tryd.prog) 114 (.agg cs) 8 = vcell false 1 cs 8 := by kernel_rfl
theorem fc114_8 (cs : List MV) (o : Nat) : vfieldAddr (tyOf Tryd.prog) 114 8 (.cptr cs o) = some (.cptr cs (o + 8)) := by kernel_rfl
theorem fa114_9 (k o : Nat) : vfieldAddr (tyOf Tryd.prog) 114 9 (.ptr k o) = some (.ptr k (o + 9)) := by kernel_rfl
theorem fd114_9 (cs : List MV) : vfield (tyOf Tryd.prog) 114 (.agg cs) 9 = vcell false 1 cs 9 := by kernel_rfl
theorem fc114_9 (cs : List MV) (o : Nat) : vfieldAddr (tyOf Tryd.prog) 114 9 (.cptr cs o) = some (.cptr cs (o + 9)) := by kernel_rfl
theorem fa114_10 (k o : Nat) : vfieldAddr (tyOf Tryd.prog) 114 10 (.ptr k o) = some (.ptr k (o + 10)) := by kernel_rfl
theorem fd114_10 (cs : List MV) : vfield (tyOf Tryd.prog) 114 (.agg cs) 10 = vcell false 1 cs 10 := by kernel_rfl
theorem fc114_10 (cs : List MV) (o : Nat) : vfieldAddr (tyOf Tryd.prog) 114 10 (.cptr cs o) = some (.cptr cs (o + 10)) := by kernel_rfl
set_option linter.defProp false in
def T1 := @ty1
set_option linter.defProp false in
def T2 := @ty2
set_option linter.defProp false in
def T3 := @ty3
set_option linter.defProp false in
def T4 := @ty4
set_option linter.defProp false in
def T5 := @ty5
set_option linter.defProp false in
def T6 := @ty6
set_option linter.defProp false in
def T7 := And.intro @ty7 <| And.intro @ag7 <| And.intro @bd7 <| And.intro @fa7_0 <| And.intro @fc7_0 <| And.intro @fd7_0 <| And.intro @fa7_1 <| And.intro @fc7_1 <| And.intro @fd7_1 <| And.intro @fa7_2 <| And.intro @fc7_2 <| And.intro @fd7_2 <| And.intro @fa7_3 <| And.intro @fc7_3 <| @fd7_3
set_option linter.defProp false in
def T8 := And.intro @ty8 <| And.intro @ag8 <| And.intro @bd8 <| And.intro @fa8_0 <| And.intro @fc8_0 <| And.intro @fd8_0 <| And.intro @fa8_1 <| And.intro @fc8_1 <| And.intro @fd8_1 <| And.intro @fa8_2 <| And.intro @fc8_2 <| And.intro @fd8_2 <| And.intro @fa8_3 <| And.intro @fc8_3 <| @fd8_3
set_option linter.defProp false in
def T9 := @ty9
set_option linter.defProp false in
def T10 := @ty10
set_option linter.defProp false in
def T11 := @ty11
set_option linter.defProp false in
def T12 := @ty12
set_option linter.defProp false in
def T13 := And.intro @ty13 <| And.intro @ag13 <| And.intro @bd13 <| And.intro @fa13_0 <| And.intro @fc13_0 <| And.intro @fd13_0 <| And.intro @fa13_1 <| And.intro @fc13_1 <| @fd13_1
set_option linter.defProp false in
def T14 := And.intro @ty14 <| And.intro @ag14 <| And.intro @bd14 <| And.intro @fa14_0 <| And.intro @fc14_0 <| And.intro @fd14_0 <| And.intro @fa14_1 <| And.intro @fc14_1 <| @fd14_1
set_option linter.defProp false in
def T15 := @ty15
set_option linter.defProp false in
def T16 := @ty16
set_option linter.defProp false in
def T17 := @ty17
set_option linter.defProp false in
def T18 := And.intro @ty18 <| And.intro @ag18 <| And.intro @bd18 <| And.intro @fa18_0 <| And.intro @fc18_0 <| @fd18_0
set_option linter.defProp false in
def T19 := And.intro @ty19 <| And.intro @ag19 <| And.intro @bd19 <| And.intro @fa19_0 <| And.intro @fc19_0 <| @fd19_0
set_option linter.defProp false in
def T20 := @ty20
set_option linter.defProp false in
def T21 := @ty21
set_option linter.defProp false in
def T22 := @ty22
set_option linter.defProp false in
def T23 := @ty23
set_option linter.defProp false in
def T24 := @ty24
set_option linter.defProp false in
def T25 := @ty25
set_option linter.defProp false in
def T26 := @ty26
set_option linter.defProp false in
def T27 := And.intro @ty27 <| And.intro @ag27 <| And.intro @bd27 <| And.intro @fa27_0 <| And.intro @fc27_0 <| And.intro @fd27_0 <| And.intro @fa27_1 <| And.intro @fc27_1 <| And.intro @fd27_1 <| And.intro @fa27_2 <| And.intro @fc27_2 <| @fd27_2
set_option linter.defProp false in
def T28 := And.intro @ty28 <| And.intro @ag28 <| And.intro @bd28 <| And.intro @fa28_0 <| And.intro @fc28_0 <| And.intro @fd28_0 <| And.intro @fa28_1 <| And.intro @fc28_1 <| And.intro @fd28_1 <| And.intro @fa28_2 <| And.intro @fc28_2 <| @fd28_2
set_option linter.defProp false in
def T29 := And.intro @ty29 <| And.intro @ag29 <| And.intro @bd29 <| And.intro @fa29_0 <| And.intro @fc29_0 <| And.intro @fd29_0 <| And.intro @fa29_1 <| And.intro @fc29_1 <| And.intro @fd29_1 <| And.intro @fa29_2 <| And.intro @fc29_2 <| @fd29_2
set_option linter.defProp false in
def T30 := And.intro @ty30 <| And.intro @ag30 <| And.intro @bd30 <| And.intro @fa30_0 <| And.intro @fc30_0 <| And.intro @fd30_0 <| And.intro @fa30_1 <| And.intro @fc30_1 <| And.intro @fd30_1 <| And.intro @fa30_2 <| And.intro @fc30_2 <| @fd30_2
set_option linter.defProp false in
def T31 := @ty31
set_option linter.defProp false in
def T32 := @ty32
set_option linter.defProp false in
def T33 := @ty33
set_option linter.defProp false in
def T34 := @ty34
set_option linter.defProp false in
def T35 := @ty35
set_option linter.defProp false in
def T36 := @ty36
set_option linter.defProp false in
def T37 := @ty37
set_option linter.defProp false in
def T38 := @ty38
set_option linter.defProp false in
def T39 := @ty39
set_option linter.defProp false in
def T40 := @ty40
set_option linter.defProp false in
def T41 := @ty41
set_option linter.defProp false in
def T42 := @ty42
set_option linter.defProp false in
def T43 := @ty43
set_option linter.defProp false in
def T45 := @ty45
set_option linter.defProp false in
def T46 := @ty46
set_option linter.defProp false in
def T47 := @ty47
set_option linter.defProp false in
def T48 := @ty48
set_option linter.defProp false in
def T49 := And.intro @ty49 <| And.intro @ag49 <| And.intro @bd49 <| And.intro @fa49_0 <| And.intro @fc49_0 <| And.intro @fd49_0 <| And.intro @fa49_1 <| And.intro @fc49_1 <| And.intro @fd49_1 <| And.intro @fa49_2 <| And.intro @fc49_2 <| @fd49_2
set_option linter.defProp false in
def T50 := And.intro @ty50 <| And.intro @ag50 <| And.intro @bd50 <| And.intro @fa50_0 <| And.intro @fc50_0 <| And.intro @fd50_0 <| And.intro @fa50_1 <| And.intro @fc50_1 <| And.intro @fd50_1 <| And.intro @fa50_2 <| And.intro @fc50_2 <| @fd50_2
set_option linter.defProp false in
def T51 := @ty51
set_option linter.defProp false in
def T52 := @ty52
set_option linter.defProp false in
def T53 := @ty53
set_option linter.defProp false in
def T54 := @ty54
set_option linter.defProp false in
def T55 := @ty55
set_option linter.defProp false in
def T56 := @ty56
set_option linter.defProp false in
def T57 := @ty57
set_option linter.defProp false in
def T58 := @ty58
set_option linter.defProp false in
def T59 := And.intro @ty59 <| And.intro @ag59 <| And.intro @bd59 <| And.intro @fa59_0 <| And.intro @fc59_0 <| And.intro @fd59_0 <| And.intro @fa59_1 <| And.intro @fc59_1 <| @fd59_1
set_option linter.defProp false in
def T60 := And.intro @ty60 <| And.intro @ag60 <| And.intro @bd60 <| And.intro @fa60_0 <| And.intro @fc60_0 <| And.intro @fd60_0 <| And.intro @fa60_1 <| And.intro @fc60_1 <| @fd60_1
set_option linter.defProp false in
def T61 := @ty61
set_option linter.defProp false in
def T62 := @ty62
set_option linter.defProp false in
def T63 := @ty63
set_option linter.defProp false in
def T65 := @ty65
set_option linter.defProp false in
def T66 := @ty66
set_option linter.defProp false in
def T67 := @ty67
set_option linter.defProp false in
def T68 := @ty68
set_option linter.defProp false in
def T69 := @ty69
set_option linter.defProp false in
def T70 := @ty70
set_option linter.defProp false in
def T71 := @ty71
set_option linter.defProp false in
def T72 := @ty72
set_option linter.defProp false in
def T76 := @ty76
set_option linter.defProp false in
def T77 := @ty77
set_option linter.defProp false in
def T78 := @ty78
set_option linter.defProp false in
def T79 := @ty79
set_option linter.defProp false in
def T80 := @ty80
set_option linter.defProp false in
def T81 := @ty81
set_option linter.defProp false in
def T82 := @ty82
set_option linter.defProp false in
def T84 := @ty84
set_option linter.defProp false in
def T85 := @ty85
set_option linter.defProp false in
def T86 := @ty86
set_option linter.defProp false in
def T87 := @ty87
set_option linter.defProp false in
def T88 := @ty88
set_option linter.defProp false in
def T89 := @ty89
set_option linter.defProp false in
def T90 := @ty90
set_option linter.defProp false in
def T91 := @ty91
set_option linter.defProp false in
def T92 := @ty92
set_option linter.defProp false in
def T93 := @ty93
set_option linter.defProp false in
def T95 := And.intro @ty95 <| And.intro @ag95 <| And.intro @bd95 <| And.intro @fa95_0 <| And.intro @fc95_0 <| And.intro @fd95_0 <| And.intro @fa95_1 <| And.intro @fc95_1 <| @fd95_1
set_option linter.defProp false in
def T96 := And.intro @ty96 <| And.intro @ag96 <| And.intro @bd96 <| And.intro @fa96_0 <| And.intro @fc96_0 <| And.intro @fd96_0 <| And.intro @fa96_1 <| And.intro @fc96_1 <| @fd96_1
set_option linter.defProp false in
def T97 := @ty97
set_option linter.defProp false in
def T98 := @ty98
set_option linter.defProp false in
def T99 := @ty99
set_option linter.defProp false in
def T101 := @ty101
set_option linter.defProp false in
def T102 := And.intro @ty102 <| And.intro @ag102 <| And.intro @bd102 <| And.intro @fa102_0 <| And.intro @fc102_0 <| And.intro @fd102_0 <| And.intro @fa102_1 <| And.intro @fc102_1 <| And.intro @fd102_1 <| And.intro @fa102_2 <| And.intro @fc102_2 <| And.intro @fd102_2 <| And.intro @fa102_3 <| And.intro @fc102_3 <| @fd102_3
set_option linter.defProp false in
def T103 := And.intro @ty103 <| And.intro @ag103 <| And.intro @bd103 <| And.intro @fa103_0 <| And.intro @fc103_0 <| And.intro @fd103_0 <| And.intro @fa103_1 <| And.intro @fc103_1 <| And.intro @fd103_1 <| And.intro @fa103_2 <| And.intro @fc103_2 <| And.intro @fd103_2 <| And.intro @fa103_3 <| And.intro @fc103_3 <| @fd103_3
set_option linter.defProp false in
def T104 := @ty104
set_option linter.defProp false in
def T105 := And.intro @ty105 <| And.intro @ag105 <| @bd105
set_option linter.defProp false in
def T106 := And.intro @ty106 <| And.intro @ag106 <| @bd106
set_option linter.defProp false in
def T107 := @ty107
set_option linter.defProp false in
def T108 := @ty108
set_option linter.defProp false in
def T109 := @ty109
set_option linter.defProp false in
def T110 := @ty110
set_option linter.defProp false in
def T111 := @ty111
set_option linter.defProp false in
def T112 := @ty112
set_option linter.defProp false in
def T113 := And.intro @ty113 <| And.intro @ag113 <| And.intro @bd113 <| And.intro @fa113_0 <| And.intro @fc113_0 <| And.intro @fd113_0 <| And.intro @fa113_1 <| And.intro @fc113_1 <| And.intro @fd113_1 <| And.intro @fa113_2 <| And.intro @fc113_2 <| And.intro @fd113_2 <| And.intro @fa113_3 <| And.intro @fc113_3 <| And.intro @fd113_3 <| And.intro @fa113_4 <| And.intro @fc113_4 <| And.intro @fd113_4 <| And.intro @fa113_5 <| And.intro @fc113_5 <| And.intro @fd113_5 <| And.intro @fa113_6 <| And.intro @fc113_6 <| And.intro @fd113_6 <| And.intro @fa113_7 <| And.intro @fc113_7 <| And.intro @fd113_7 <| And.intro @fa113_8 <| And.intro @fc113_8 <| And.intro @fd113_8 <| And.intro @fa113_9 <| And.intro @fc113_9 <| And.intro @fd113_9 <| And.intro @fa113_10 <| And.intro @fc113_10 <| @fd113_10
set_option linter.defProp false in
def T114 := And.intro @ty114 <| And.intro @ag114 <| And.intro @bd114 <| And.intro @fa114_0 <| And.intro @fc114_0 <| And.intro @fd114_0 <| And.intro @fa114_1 <| And.intro @fc114_1 <| And.intro @fd114_1 <| And.intro @fa114_2 <| And.intro @fc114_2 <| And.intro @fd114_2 <| And.intro @fa114_3 <| And.intro @fc114_3 <| And.intro @fd114_3 <| And.intro @fa114_4 <| And.intro @fc114_4 <| And.intro @fd114_4 <| And.intro @fa114_5 <| And.intro @fc114_5 <| And.intro @fd114_5 <| And.intro @fa114_6 <| And.intro @fc114_6 <| And.intro @fd114_6 <| And.intro @fa114_7 <| And.intro @fc114_7 <| And.intro @fd114_7 <| And.intro @fa114_8 <| And.intro @fc114_8 <| And.intro @fd114_8 <| And.intro @fa114_9 <| And.intro @fc114_9 <| And.intro @fd114_9 <| And.intro @fa114_10 <| And.intro @fc114_10 <| @fd114_10
end Go.Proofs.YtjbpnhmjnkolbaaDoor

/-
  strings.Builder: copyCheck, WriteByte, WriteString, String, walked: the builder as a text that grows.
-/
set_option linter.unusedVariables false
set_option linter.unusedSimpArgs false
namespace Go.Proofs.YtjbpnhmjnkolbaaDoor
open Go.RowKit
set_option maxRecDepth 10000
set_option linter.defProp false in
def tsB := And.intro T9 <| And.intro T3 <| And.intro T4 <| And.intro T5 <| And.intro T37 <| And.intro T58 <| And.intro T60 <| And.intro T62 T86

/-- A builder in block b, its bytes in the row q (none: there are none yet), holding the text s. -/
structure Bld (O : VH) (B b : Nat) (q : Option Nat) (s : List UInt8) : Prop where
  cell : ∃ p buf, O.hp b = some (.cells [p, buf]) ∧ (p = .v (.pointer none) ∨ p = .ptr b 0) ∧ GR O 5 1 B buf s.length (s.map byM) ∧ gid buf = q ∧ buf ≠ .sl 0 [] .full
  ne : q ≠ some b
  shp : ∃ j, B ≤ j ∧ j < O.next ∧ O.hp j = some (.shape b 60 2)
  lo : B ≤ b
  hi : b < O.next
  nz : s = [] → q = none
/-- What writing into a builder turns. -/
structure BUpd (O : VH) (b : Nat) (q : Option Nat) (O' : VH) (q' : Option Nat) : Prop where
  next : O.next ≤ O'.next
  hp : ∀ i, i < O.next → i ≠ b → q ≠ some i → O'.hp i = O.hp i
  new : ∀ i, i < O.next → q ≠ some i → q' ≠ some i
theorem Bld.q_lt {O : VH} {B b : Nat} {q : Option Nat} {s : List UInt8} (h : Bld O B b q s) : ∀ i, O.next ≤ i → q ≠ some i := by
  intro i hi e
  obtain ⟨p, buf, _, _, hg, hq, _⟩ := h.cell
  rcases hg with ⟨_, _, rfl | rfl⟩ | ⟨k, c, rfl, _, _, hr⟩
  · rw [← hq] at e; cases e
  · rw [← hq] at e; cases e
  · rw [← hq] at e; injection e with e; have := hr.hi; omega
theorem Bld.q_lo {O : VH} {B b : Nat} {q : Option Nat} {s : List UInt8} (h : Bld O B b q s) : ∀ i, q = some i → B ≤ i := by
  intro i e
  obtain ⟨p, buf, _, _, hg, hq, _⟩ := h.cell
  rcases hg with ⟨_, _, rfl | rfl⟩ | ⟨k, c, rfl, _, _, hr⟩
  · rw [← hq] at e; cases e
  · rw [← hq] at e; cases e
  · rw [← hq] at e; injection e with e; rw [← e]; exact hr.lo
theorem BUpd.ge {O0 O O' : VH} {b : Nat} {q q' : Option Nat} (h : O0.Ge O) (u : BUpd O b q O' q') (hb : O0.next ≤ b) (hq : ∀ i, q = some i → O0.next ≤ i) : O0.Ge O' :=
  ⟨Nat.le_trans h.next u.next, fun i hi => (u.hp i (Nat.lt_of_lt_of_le hi h.next) (by omega) (fun e => by have := hq i e; omega)).trans (h.hp i hi)⟩
/-- A builder stands as it did where its blocks do. -/
theorem Bld.keep {O O' : VH} {B b : Nat} {q : Option Nat} {s : List UInt8} (h : Bld O B b q s) (hn : O.next ≤ O'.next) (hb : O'.hp b = O.hp b) (hq : ∀ i, q = some i → O'.hp i = O.hp i) (hs : ∀ j k t n, O.hp j = some (.shape k t n) → j < O.next → O'.hp j = O.hp j) : Bld O' B b q s := by
  obtain ⟨p, buf, h1, h2, h3, h4, h5⟩ := h.cell
  obtain ⟨j, j1, j2, j3⟩ := h.shp
  refine ⟨⟨p, buf, hb.trans h1, h2, ?_, h4, h5⟩, h.ne, ⟨j, j1, by omega, (hs j _ _ _ j3 j2).trans j3⟩, h.lo, by have := h.hi; omega, h.nz⟩
  rcases h3 with h3 | ⟨k, c, rfl, g1, g2, g3⟩
  · exact .inl h3
  · refine .inr ⟨k, c, rfl, g1, g2, ?_⟩
    obtain ⟨sp, r1, r2⟩ := g3.cells
    obtain ⟨i, i1, i2, i3⟩ := g3.shp
    exact ⟨⟨sp, (hq k h4.symm).trans r1, r2⟩, ⟨i, i1, by omega, (hs i _ _ _ i3 i2).trans i3⟩, g3.lo, by have := g3.hi; omega⟩
theorem Bld.keepN {O O' : VH} {B b : Nat} {q : Option Nat} {s : List UInt8} (h : Bld O B b q s) (u : Upd O none O') : Bld O' B b q s :=
  h.keep u.next (u.hp b h.hi (by simp)) (fun i hi => u.hp i (by
    rcases Nat.lt_or_ge i O.next with h' | h'
    · exact h'
    · exact absurd hi (h.q_lt i h')) (by simp)) fun j _ _ _ _ hl => u.hp j hl (by simp)
/-- Another block is turned. -/
theorem Bld.set {O : VH} {B b i : Nat} {q : Option Nat} {s : List UInt8} {cs : List MV} {x : VObj} (h : Bld O B b q s) (hi : O.hp i = some (.cells cs)) (hb : i ≠ b) (hq : q ≠ some i) : Bld (O.set i x) B b q s :=
  h.keep (Nat.le_refl _) (VH.set_ne _ _ (Ne.symm hb)) (fun k hk => VH.set_ne _ _ (fun e => hq (by rw [hk, e]))) fun j _ _ _ hj _ => VH.set_ne _ _ (fun e => by rw [e, hi] at hj; cases hj)
theorem Bld.fresh (O : VH) {B : Nat} (hB : B ≤ O.next) : Bld ((O.push (.cells [.v (.pointer none), .sl 0 [] .nil])).push (.shape O.next 60 2)) B O.next none [] :=
  ⟨⟨_, _, (VH.push_old _ _ (by show O.next < O.next + 1; omega)).trans (VH.push_new _ _), .inl rfl, .inl ⟨rfl, rfl, .inl rfl⟩, rfl, by simp⟩, by simp, ⟨O.next + 1, by omega, by show O.next + 1 < O.next + 1 + 1; omega, VH.push_new _ _⟩, hB, by show O.next < O.next + 1 + 1; omega, fun _ => rfl⟩

theorem NoEscape_x (k o : Nat) (O : VH) : ExtOk Tryd.prog 59 [.ptr k o] O fun m O' => m = .ptr k o ∧ O' = O := by
  refine ExtOk.of (ex := Extern.AbiNoEscape.same) Tryd.func59 (by kernel_rfl) (by kernel_rfl) (by kernel_rfl) (by kernel_rfl) fun G w vs hw hv => ?_
  obtain ⟨u, us, rfl, h1, h2⟩ := hv.inv_cons
  rw [h2.inv_nil]
  exact ⟨u, Lib.run_noEscape w u, h1⟩
/-- (*strings.Builder).copyCheck -/
theorem copyCheck_v {O : VH} {B b : Nat} {q : Option Nat} {s : List UInt8} (h : Bld O B b q s) : VF Tryd.prog 50 [.ptr b 0] O (Ret fun m O' => Bld O' B b q s ∧ BUpd O b q O' q) := by
  obtain ⟨p, buf, h1, h2, h3, h4, h5⟩ := h.cell
  obtain ⟨j, j1, j2, j3⟩ := h.shp
  have hb := h.hi
  refine VF.ofW (n := ⟨20, 0⟩) (rs := []) tabOk Tryd.func50 rfl rfl rfl (Nat.le_of_ble_eq_true rfl) ?_
  simp only [argEnv, Nat.zero_add, Nat.reduceAdd]
  rcases h2 with rfl | rfl
  · simp (disch := first | omega | (simp only [ds] <;> omega) | fail) only [ws, undefM, Nat.reduceLT, Nat.reduceAdd, Nat.reduceMul, Nat.reduceSub, Nat.reduceBEq, Nat.reduceEqDiff, Int.reduceToNat, reduceIte, tsB, h1]
    refine VL.toU tabOk (.inl rfl) (el := 60) (by rw [ty58]; rfl) (by rw [ty86]; rfl) ty60 (by decide) j3 (by decide) rfl rfl rfl ?_
    simp (disch := first | omega | (simp only [ds] <;> omega) | fail) only [ws, undefM, Nat.reduceLT, Nat.reduceAdd, Nat.reduceMul, Nat.reduceSub, Nat.reduceBEq, Nat.reduceEqDiff, Int.reduceToNat, reduceIte]
    refine CallW.ext (NoEscape_x b 0 O) rfl ?_
    rintro _ O2 ⟨rfl, rfl⟩
    simp (disch := first | omega | (simp only [ds] <;> omega) | fail) only [ws, undefM, Nat.reduceLT, Nat.reduceAdd, Nat.reduceMul, Nat.reduceSub, Nat.reduceBEq, Nat.reduceEqDiff, Int.reduceToNat, reduceIte]
    refine VL.fromU tabOk (.inl rfl) (el := 60) (by rw [ty86]; rfl) (by rw [ty58]; rfl) ty60 j3 (by kernel_rfl) rfl rfl rfl ?_
    simp (disch := first | omega | (simp only [ds] <;> omega) | fail) only [ws, undefM, Nat.reduceLT, Nat.reduceAdd, Nat.reduceMul, Nat.reduceSub, Nat.reduceBEq, Nat.reduceEqDiff, Int.reduceToNat, reduceIte, tsB, h1]
    refine ⟨⟨⟨_, buf, VH.set_get _ _ _, .inr rfl, h3.keep Upd.set (by rw [h4]; exact h.ne) (fun k t n => by rw [h1]; simp), h4, h5⟩, h.ne, ⟨j, j1, j2, ?_⟩, h.lo, h.hi, h.nz⟩, ⟨Nat.le_refl _, fun i _ hi _ => VH.set_ne _ _ hi, fun _ _ h => h⟩⟩
    rw [VH.set_ne _ _ (fun e => by rw [e, h1] at j3; cases j3)]
    exact j3
  · simp (disch := first | omega | (simp only [ds] <;> omega) | fail) only [ws, undefM, Nat.reduceLT, Nat.reduceAdd, Nat.reduceMul, Nat.reduceSub, Nat.reduceBEq, Nat.reduceEqDiff, Int.reduceToNat, reduceIte, tsB, h1, vbin_psame (op := .neq) ty58 (s := 1) ty60]
    exact ⟨h, ⟨Nat.le_refl _, fun _ _ _ _ => rfl, fun _ _ h => h⟩⟩
/-- What an append to the builder's bytes comes to. -/
theorem Bld.grown {O O' : VH} {B b : Nat} {q : Option Nat} {s : List UInt8} {p buf m : MV} {n' z : Nat} {L : List UInt8} (h : Bld O B b q s) (h1 : O.hp b = some (.cells [p, buf])) (h2 : p = .v (.pointer none) ∨ p = .ptr b 0) (h4 : gid buf = q) (hg : GR O' 5 1 B m n' (L.map byM)) (hn : n' = L.length) (hu : Upd O (gid buf) O') (hnew : (∃ k c, m = .asl k 0 n' c ∧ (gid buf = some k ∨ (O.next ≤ k ∧ z ≠ 0))) ∨ m = buf) (hf : buf ≠ .sl 0 [] .full) (hz : L = [] → z = 0 ∧ s = []) :
    Bld (O'.set b (.cells [p, m])) B b (gid m) L ∧ BUpd O b q (O'.set b (.cells [p, m])) (gid m) := by
  subst hn
  obtain ⟨j, j1, j2, j3⟩ := h.shp
  have hb := h.hi
  have hm : m ≠ .sl 0 [] .full := by
    rcases hnew with ⟨k, c, rfl, _⟩ | rfl
    · simp
    · exact hf
  have hgn : ∀ i, i < O.next → q ≠ some i → gid m ≠ some i := fun i hi hq => by
    rcases hnew with ⟨k, c, rfl, hk⟩ | rfl
    · rcases hk with hk | hk
      · rw [← h4, hk] at hq; exact hq
      · intro e; injection e with e; have := hk.1; omega
    · rw [h4]; exact hq
  have hne : gid m ≠ some b := hgn b hb h.ne
  have hOb : O'.hp b = some (.cells [p, buf]) := (hu.hp b hb (by rw [h4]; exact h.ne)).trans h1
  have hqs : ∀ i k t n, O.hp i = some (.shape k t n) → i < O.next → O'.hp i = O.hp i := fun i k t n hi hl => hu.hp i hl fun e => by
    obtain ⟨p', buf', g1, g2, g3, g4, g5⟩ := h.cell
    rw [h1] at g1
    injection g1 with g1; injection g1 with g1; injection g1 with e1 e2; injection e2 with e2; subst e2
    rcases g3 with ⟨_, _, rfl | rfl⟩ | ⟨k2, c2, rfl, _, _, hr⟩
    · cases e
    · cases e
    · injection e with e
      subst e
      obtain ⟨sp, r1, _⟩ := hr.cells
      rw [r1] at hi; cases hi
  refine ⟨⟨⟨p, m, VH.set_get _ _ _, h2, hg.keep Upd.set hne (fun k t n => by rw [hOb]; simp), rfl, hm⟩, hne, ⟨j, j1, Nat.lt_of_lt_of_le j2 hu.next, ?_⟩, h.lo, Nat.lt_of_lt_of_le hb hu.next, fun hL => ?_⟩, ⟨hu.next, fun i hi hib hq => (VH.set_ne _ _ hib).trans (hu.hp i hi (by rw [h4]; exact hq)), hgn⟩⟩
  · rw [VH.set_ne _ _ (fun e => by rw [e, h1] at j3; cases j3)]
    exact (hqs j _ _ _ j3 j2).trans j3
  · obtain ⟨z0, s0⟩ := hz hL
    have hq := h.nz s0
    rw [hq] at h4
    rcases hnew with ⟨k, c, rfl, hk⟩ | rfl
    · rcases hk with hk | hk
      · rw [h4] at hk; cases hk
      · exact absurd z0 hk.2
    · exact h4
/-- (*strings.Builder).WriteByte -/
theorem WriteByte_v {O : VH} {B b : Nat} {q : Option Nat} {s : List UInt8} (c : UInt8) (h : Bld O B b q s) (hl : s.length + 1 ≤ 140737488355328) : VF Tryd.prog 34 [.ptr b 0, byM c] O (Ret fun m O' => m = .v .nilIface ∧ ∃ q', Bld O' B b q' (s ++ [c]) ∧ BUpd O b q O' q') := by
  refine VF.ofW (n := ⟨17, 0⟩) (rs := [.tmp 4]) tabOk Tryd.func34 rfl rfl rfl (Nat.le_of_ble_eq_true rfl) ?_
  simp only [argEnv, Nat.zero_add, Nat.reduceAdd]
  simp (disch := first | omega | (simp only [ds] <;> omega) | fail) only [ws, undefM, Nat.reduceLT, Nat.reduceAdd, Nat.reduceMul, Nat.reduceSub, Nat.reduceBEq, Nat.reduceEqDiff, Int.reduceToNat, reduceIte, tsB]
  refine CallW.rt (copyCheck_v h) (by kernel_rfl) rfl rfl ?_
  rintro _ O1 ⟨h', u'⟩
  obtain ⟨p, buf, h1, h2, h3, h4, h5⟩ := h'.cell
  have hb := h'.hi
  simp (disch := first | omega | (simp only [ds] <;> omega) | fail) only [ws, undefM, Nat.reduceLT, Nat.reduceAdd, Nat.reduceMul, Nat.reduceSub, Nat.reduceBEq, Nat.reduceEqDiff, Int.reduceToNat, reduceIte, tsB, h1, byM_def]
  refine VL.grow tabOk (.inl rfl) (te := ⟨.int .u8, 1, 1, [.v (.int .u8 0)]⟩) (dx := .slice 5) (q := .sl 1 [byM c] .full) (j := 1) (ds := [byM c]) h3 rfl rfl (by rw [ty37]; rfl) ty5 (by rw [ty37]; rfl) trivial (by dsimp only; omega) (by simp only [maxLen]; omega) (by have := h'.lo; omega) rfl rfl rfl rfl ?_
  intro m O2 hg hu _ hnew
  have hg' : GR O2 5 1 B m (s.length + 1) ((s ++ [c]).map byM) := by rw [List.map_append]; exact hg
  have hr := h'.grown h1 h2 h4 hg' (by simp) hu (hnew.imp_right (·.2.1)) h5 (by simp)
  have hO : O2.hp b = some (.cells [p, buf]) := (hu.hp b hb (by rw [h4]; exact h'.ne)).trans h1
  have hlf : mcells m = [m] ∧ leafB m = true := by
    rcases hnew with ⟨k, cp, rfl, _⟩ | ⟨hj, _⟩
    · exact ⟨rfl, rfl⟩
    · cases hj
  have hst := stT_1 (O := O2) (k := b) (off := 1) (u := .slice 5) (b := 24) (z := [.sl 0 [] .nil]) (cs := [p, buf]) hlf.1 hlf.2 (by simp)
  simp (disch := first | omega | (simp only [ds] <;> omega) | fail) only [ws, undefM, Nat.reduceLT, Nat.reduceAdd, Nat.reduceMul, Nat.reduceSub, Nat.reduceBEq, Nat.reduceEqDiff, Int.reduceToNat, reduceIte, tsB, hO, hst]
  exact ⟨_, hr.1, ⟨Nat.le_trans u'.next hr.2.next, fun i hi hib hq => (hr.2.hp i (Nat.lt_of_lt_of_le hi u'.next) hib hq).trans (u'.hp i hi hib hq), fun i hi hq => hr.2.new i (Nat.lt_of_lt_of_le hi u'.next) hq⟩⟩
/-- (*strings.Builder).WriteString -/
theorem WriteString_v {O : VH} {B b : Nat} {q : Option Nat} {s : List UInt8} (l : List UInt8) (h : Bld O B b q s) (hl : s.length + l.length ≤ 140737488355328) : VF Tryd.prog 35 [.ptr b 0, .str l] O (Ret fun m O' => m = .tuple [mi l.length, .v .nilIface] ∧ ∃ q', Bld O' B b q' (s ++ l) ∧ BUpd O b q O' q') := by
  refine VF.ofW (n := ⟨19, 0⟩) (rs := [.tmp 4, .tmp 5]) tabOk Tryd.func35 rfl rfl rfl (Nat.le_of_ble_eq_true rfl) ?_
  simp only [argEnv, Nat.zero_add, Nat.reduceAdd]
  simp (disch := first | omega | (simp only [ds] <;> omega) | fail) only [ws, undefM, Nat.reduceLT, Nat.reduceAdd, Nat.reduceMul, Nat.reduceSub, Nat.reduceBEq, Nat.reduceEqDiff, Int.reduceToNat, reduceIte, tsB]
  refine CallW.rt (copyCheck_v h) (by kernel_rfl) rfl rfl ?_
  rintro _ O1 ⟨h', u'⟩
  obtain ⟨p, buf, h1, h2, h3, h4, h5⟩ := h'.cell
  have hb := h'.hi
  simp (disch := first | omega | (simp only [ds] <;> omega) | fail) only [ws, undefM, Nat.reduceLT, Nat.reduceAdd, Nat.reduceMul, Nat.reduceSub, Nat.reduceBEq, Nat.reduceEqDiff, Int.reduceToNat, reduceIte, tsB, h1]
  refine VL.grow tabOk (.inl rfl) (te := ⟨.int .u8, 1, 1, [.v (.int .u8 0)]⟩) (dx := .string) (q := .str l) (j := l.length) (ds := l.map byM) h3 rfl (by rw [List.all_map]; exact List.all_eq_true.2 fun _ _ => rfl) (by rw [ty37]; rfl) ty5 (by rw [ty9]; rfl) trivial (by dsimp only; omega) (by simp only [maxLen]; omega) (by have := h'.lo; omega) rfl rfl rfl rfl ?_
  intro m O2 hg hu _ hnew
  have hg' : GR O2 5 1 B m (s.length + l.length) ((s ++ l).map byM) := by rw [List.map_append]; exact hg
  have hr := h'.grown h1 h2 h4 hg' (by simp) hu (hnew.imp_right (·.2.1)) h5 (by simp [and_comm])
  have hO : O2.hp b = some (.cells [p, buf]) := (hu.hp b hb (by rw [h4]; exact h'.ne)).trans h1
  have hlf : mcells m = [m] ∧ leafB m = true := by
    rcases hnew with ⟨k, cp, rfl, _⟩ | ⟨_, rfl, _⟩
    · exact ⟨rfl, rfl⟩
    · rcases h3 with ⟨_, _, rfl | rfl⟩ | ⟨k, c, rfl, _⟩ <;> exact ⟨rfl, rfl⟩
  have hst := stT_1 (O := O2) (k := b) (off := 1) (u := .slice 5) (b := 24) (z := [.sl 0 [] .nil]) (cs := [p, buf]) hlf.1 hlf.2 (by simp)
  simp (disch := first | omega | (simp only [ds] <;> omega) | fail) only [ws, undefM, Nat.reduceLT, Nat.reduceAdd, Nat.reduceMul, Nat.reduceSub, Nat.reduceBEq, Nat.reduceEqDiff, Int.reduceToNat, reduceIte, tsB, hO, hst]
  exact ⟨_, hr.1, ⟨Nat.le_trans u'.next hr.2.next, fun i hi hib hq => (hr.2.hp i (Nat.lt_of_lt_of_le hi u'.next) hib hq).trans (u'.hp i hi hib hq), fun i hi hq => hr.2.new i (Nat.lt_of_lt_of_le hi u'.next) hq⟩⟩
/-- (*strings.Builder).String -/
theorem BString_v {O : VH} {B b : Nat} {q : Option Nat} {s : List UInt8} (h : Bld O B b q s) (hm : s.length ≤ maxLen) : VF Tryd.prog 36 [.ptr b 0] O (Ret fun m O' => m = .str s ∧ Upd O q O') := by
  obtain ⟨p, buf, h1, h2, h3, h4, h5⟩ := h.cell
  have hb := h.hi
  refine VF.ofW (n := ⟨14, 0⟩) (rs := [.tmp 2]) tabOk Tryd.func36 rfl rfl rfl (Nat.le_of_ble_eq_true rfl) ?_
  simp only [argEnv, Nat.zero_add, Nat.reduceAdd]
  simp (disch := first | omega | (simp only [ds] <;> omega) | fail) only [ws, undefM, Nat.reduceLT, Nat.reduceAdd, Nat.reduceMul, Nat.reduceSub, Nat.reduceBEq, Nat.reduceEqDiff, Int.reduceToNat, reduceIte]
  refine WC.plan tabOk (.held [10, 11]) [(0, .rd), (1, .rd), (2, .rd), (3, .rd), (4, .rd), (5, .rd), (6, .rd), (7, .rd), (8, .rd), (9, .rd), (10, .one), (11, .rd)] (by simp) (by kernel_rfl) (by kernel_rfl) (by kernel_rfl) rfl ?_
  have hO : O.hp b = some (.cells [p, buf]) := h1
  rcases h3 with ⟨e1, e2, rfl | rfl⟩ | ⟨k, c, rfl, g1, g2, g3⟩
  · have hs : s = [] := List.eq_nil_of_length_eq_zero e1
    subst hs
    simp (disch := first | omega | (simp only [ds] <;> omega) | fail) only [ws, undefM, Nat.reduceLT, Nat.reduceAdd, Nat.reduceMul, Nat.reduceSub, Nat.reduceBEq, Nat.reduceEqDiff, Int.reduceToNat, reduceIte, tsB, h1, vsdata]
    refine VL.ustr0 tabOk (by kernel_rfl) rfl rfl rfl rfl ?_
    simp (disch := first | omega | (simp only [ds] <;> omega) | fail) only [ws, undefM, Nat.reduceLT, Nat.reduceAdd, Nat.reduceMul, Nat.reduceSub, Nat.reduceBEq, Nat.reduceEqDiff, Int.reduceToNat, reduceIte, tsB]
    exact Upd.refl _ _
  · exact absurd rfl h5
  · have hs : s ≠ [] := fun e => by have := h.nz e; rw [← h4] at this; cases this
    have hc : c ≠ 0 := fun e => hs (List.eq_nil_of_length_eq_zero (by omega))
    have hsz : s.length ≤ maxLen := hm
    simp (disch := first | omega | (simp only [ds] <;> omega) | fail) only [ws, undefM, Nat.reduceLT, Nat.reduceAdd, Nat.reduceMul, Nat.reduceSub, Nat.reduceBEq, Nat.reduceEqDiff, Int.reduceToNat, reduceIte, tsB, h1, vsdata, hc]
    refine VL.ustr tabOk (by kernel_rfl) (el := 5) (by rw [ty79]; rfl) (by kernel_rfl) g3 hs hsz rfl rfl rfl rfl ?_
    simp (disch := first | omega | (simp only [ds] <;> omega) | fail) only [ws, undefM, Nat.reduceLT, Nat.reduceAdd, Nat.reduceMul, Nat.reduceSub, Nat.reduceBEq, Nat.reduceEqDiff, Int.reduceToNat, reduceIte, tsB]
    exact h4 ▸ Upd.kill
end Go.Proofs.YtjbpnhmjnkolbaaDoor

/-
  The package chars: IsDigit, Lower, walked.
-/
set_option linter.unusedVariables false
set_option linter.unusedSimpArgs false
namespace Go.Proofs.YtjbpnhmjnkolbaaDoor
open Go.RowKit
set_option maxRecDepth 10000

theorem wrap_u8 {n : Int} (h0 : 0 ≤ n) (h1 : n ≤ 255) : IntKind.u8.wrap n = n := by
  simp only [IntKind.wrap, IntKind.signed, IntKind.bits]
  simp
  omega
theorem take_snoc {α : Type} (l : List α) (j : Nat) (h : j < l.length) : l.take (j + 1) = l.take j ++ [l[j]] := by
  rw [List.take_add_one, List.getElem?_eq_getElem h]; rfl
/-- A row, turned from its front up to a place. -/
def mid {α : Type} (f : α → α) (l : List α) (j : Nat) : List α := (l.take j).map f ++ l.drop j
section
variable {α : Type} {f : α → α} {l : List α} {j : Nat}
theorem mid_len (h : j ≤ l.length) : (mid f l j).length = l.length := by simp [mid]; omega
theorem mid_at (h : j < l.length) : (mid f l j)[j]? = some l[j] := by
  have hj : ((l.take j).map f).length = j := by simp; omega
  rw [mid, List.getElem?_append_right (by omega), hj, Nat.sub_self, List.getElem?_drop]
  simp [h]
theorem mid_next (h : j < l.length) : (mid f l j).set j (f l[j]) = mid f l (j + 1) := by
  have hj : ((l.take j).map f).length = j := by simp; omega
  rw [mid, mid, List.set_append_right _ _ (by omega), hj, Nat.sub_self, List.drop_eq_getElem_cons h, List.set_cons_zero, take_snoc _ _ h, List.map_append, List.append_assoc]; rfl
theorem mid_same (h : j < l.length) (hf : f l[j] = l[j]) : mid f l j = mid f l (j + 1) := by
  rw [mid, mid, List.drop_eq_getElem_cons h, take_snoc _ _ h, List.map_append, List.append_assoc]; simp [hf]
theorem mid_end : mid f l l.length = l.map f := by simp [mid]
theorem mid_0 : mid f l 0 = l := by simp [mid]
end
def isD (b : UInt8) : Bool := decide (48 ≤ b.toNat) && decide (b.toNat ≤ 57)
def lo (b : UInt8) : UInt8 := if 65 ≤ b.toNat ∧ b.toNat ≤ 90 then UInt8.ofNat (b.toNat + 32) else b

/-- chars.Lower -/
theorem Lower_v (l : List UInt8) (O : VH) (hl : l.length ≤ maxLen) : VF Tryd.prog 26 [.str l] O (Ret fun m O' => m = .str (l.map lo) ∧ O.Ge O') := by
  have hb0 := VH.push_new O (.cells (l.map byM))
  have hge := (VH.Ge.refl O).push (.cells (l.map byM))
  have hlt : O.next ≤ O.next := Nat.le_refl _
  have hlm : (l.length : Int) ≤ 9223372036854775807 := by simp [maxLen] at hl; omega
  refine VF.enter' tabOk Tryd.func26 (c := _) rfl (Nat.le_of_ble_eq_true rfl) ?_
  rw [show Tryd.f26.ntmps = 30 from rfl]
  simp only [argEnv, Nat.zero_add, Nat.reduceAdd]
  repeat' first
    | with_reducible refine VC.seq' ?_
    | with_reducible refine VC.block' ?_
    | with_reducible refine VC.skip ?_
    | with_reducible refine VC.label ?_
    | with_reducible refine VC.scope ?_
    | with_reducible refine VC.exit ?_
    | with_reducible refine VC.ret ?_
    | with_reducible refine VL.nil ?_
    | ((first | with_reducible apply VC.plainL | with_reducible apply VC.readsL (by kernel_rfl) (by kernel_rfl) (by kernel_rfl)); (with_reducible apply VL.run tabOk); (· (simp (disch := omega) only [vset, wset, ints, bools, strs, undefM, Nat.reduceLT, Nat.reduceAdd, Nat.reduceBEq, Int.reduceToNat, cv_sb ty9 ty37] <;> exact rfl)))
    | ((with_reducible apply VC.cond); (· (simp (disch := omega) only [vset, wset, ints, bools, strs, undefM, Nat.reduceLT, Nat.reduceAdd, Nat.reduceBEq, Int.reduceToNat, cv_sb ty9 ty37] <;> exact rfl)); all_goals (intro hcond; try simp only [decide_eq_true_eq, decide_eq_false_iff_not, beq_iff_eq, beq_eq_false_iff_ne, bne_iff_ne, bne_eq_false_iff_eq, ne_eq, reduceCtorEq] at hcond))
    | simp only [qset, Nat.reduceEqDiff, reduceIte]
    | ((apply EndQ.ret1 rfl); (· (simp only [look_cons, Nat.reduceBEq, cond_true, cond_false] <;> exact rfl)))
    | ((apply EndQ.ret2 rfl); (· (simp only [look_cons, Nat.reduceBEq, cond_true, cond_false] <;> exact rfl)); (· (simp only [look_cons, Nat.reduceBEq, cond_true, cond_false] <;> exact rfl)))
    | (refine EndQ.ret0 rfl ?_)
    | (refine EndQ.nor0 rfl ?_)
  apply VL.bytes tabOk (el := 5) (l := l) (hs := by rw [ty9]; rfl) (hds := by rw [ty37]; rfl) (he := by rw [ty5]; rfl) (hl := hl)
  · (simp (disch := omega) only [vset, wset, ints, bools, strs, undefM, Nat.reduceLT, Nat.reduceAdd, Nat.reduceBEq, Int.reduceToNat] <;> exact rfl)
  · (simp (disch := omega) only [vset, wset, ints, bools, strs, undefM, Nat.reduceLT, Nat.reduceAdd, Nat.reduceBEq, Int.reduceToNat] <;> exact rfl)
  · exact rfl
  intro cap hcap1 hcap2
  apply VL.run tabOk
  · (simp (disch := omega) only [vset, wset, ints, bools, strs, undefM, Nat.reduceLT, Nat.reduceAdd, Nat.reduceBEq, Int.reduceToNat] <;> exact rfl)
  generalize O.push (.cells (l.map byM)) = O1 at *
  repeat' first
    | with_reducible refine VC.seq' ?_
    | with_reducible refine VC.block' ?_
    | with_reducible refine VC.skip ?_
    | with_reducible refine VC.label ?_
    | with_reducible refine VC.scope ?_
    | with_reducible refine VC.exit ?_
    | with_reducible refine VC.ret ?_
    | with_reducible refine VL.nil ?_
    | ((first | with_reducible apply VC.plainL | with_reducible apply VC.readsL (by kernel_rfl) (by kernel_rfl) (by kernel_rfl)); (with_reducible apply VL.run tabOk); (· (simp (disch := omega) only [vset, wset, ints, bools, strs, undefM, Nat.reduceLT, Nat.reduceAdd, Nat.reduceBEq, Int.reduceToNat, vlen_asl ty37] <;> exact rfl)))
    | ((with_reducible apply VC.cond); (· (simp (disch := omega) only [vset, wset, ints, bools, strs, undefM, Nat.reduceLT, Nat.reduceAdd, Nat.reduceBEq, Int.reduceToNat, vlen_asl ty37] <;> exact rfl)); all_goals (intro hcond; try simp only [decide_eq_true_eq, decide_eq_false_iff_not, beq_iff_eq, beq_eq_false_iff_ne, bne_iff_ne, bne_eq_false_iff_eq, ne_eq, reduceCtorEq] at hcond))
    | simp only [qset, Nat.reduceEqDiff, reduceIte]
    | ((apply EndQ.ret1 rfl); (· (simp only [look_cons, Nat.reduceBEq, cond_true, cond_false] <;> exact rfl)))
    | ((apply EndQ.ret2 rfl); (· (simp only [look_cons, Nat.reduceBEq, cond_true, cond_false] <;> exact rfl)); (· (simp only [look_cons, Nat.reduceBEq, cond_true, cond_false] <;> exact rfl)))
    | (refine EndQ.ret0 rfl ?_)
    | (refine EndQ.nor0 rfl ?_)
  generalize hbb : O.next = b at *
  apply VC.loopK [10] [3, 8, 9] (ms := fun j : Nat => [mi j]) (I := fun j O' => j ≤ l.length ∧ O.Ge O' ∧ O'.hp b = some (.cells ((mid lo l j).map byM))) (μ := fun j => l.length - j) (s0 := 0)
  · (simp (disch := omega) only [vset, wset, ints, bools, strs, undefM, Nat.reduceLT, Nat.reduceAdd, Nat.reduceBEq, Int.reduceToNat, Int.natCast_zero, List.take_zero, List.map_nil, List.any_nil, Bool.or_false] <;> exact rfl)
  · (simp only [vset, wset, ints, bools, strs, undefM, Nat.reduceLT, Nat.reduceAdd, Nat.reduceBEq, Int.reduceToNat] <;> exact rfl)
  · exact ⟨by omega, hge, by rw [mid_0]; exact hb0⟩
  rintro j O2 ⟨hj, hge2, hb⟩
  by_cases h2 : j < l.length
  · have hat : ((mid lo l j).map byM)[j]? = some (byM l[j]) := by rw [List.getElem?_map, mid_at h2]; rfl
    have hb8 : l[j].toNat < 256 := l[j].toNat_lt
    by_cases hup : 65 ≤ l[j].toNat ∧ l[j].toNat ≤ 90
    · have hlo : ((lo l[j]).toNat : Int) = l[j].toNat + 97 - 65 := by
        rw [lo, if_pos hup, UInt8.toNat_ofNat']; omega
      repeat' first
        | with_reducible refine VC.seq' ?_
        | with_reducible refine VC.block' ?_
        | with_reducible refine VC.skip ?_
        | with_reducible refine VC.label ?_
        | with_reducible refine VC.scope ?_
        | with_reducible refine VC.exit ?_
        | with_reducible refine VC.ret ?_
        | with_reducible refine VL.nil ?_
        | ((first | with_reducible apply VC.plainL | with_reducible apply VC.readsL (by kernel_rfl) (by kernel_rfl) (by kernel_rfl)); (with_reducible apply VL.run tabOk); (· (simp (disch := omega) only [vset, wset, ints, bools, strs, undefM, Nat.reduceLT, Nat.reduceAdd, Nat.reduceBEq, Int.reduceToNat, vix_asl ty37 ty5, vload_p ty5 rfl hb, hat, byM_def, wrap_u8, vstore_pv (off := j) ty5 hb (by rw [List.length_map, mid_len hj]; exact h2)] <;> exact rfl)))
        | ((with_reducible apply VC.cond); (· (simp (disch := omega) only [vset, wset, ints, bools, strs, undefM, Nat.reduceLT, Nat.reduceAdd, Nat.reduceBEq, Int.reduceToNat, vix_asl ty37 ty5, vload_p ty5 rfl hb, hat, byM_def, wrap_u8, vstore_pv (off := j) ty5 hb (by rw [List.length_map, mid_len hj]; exact h2)] <;> exact rfl)); all_goals (intro hcond; try simp only [decide_eq_true_eq, decide_eq_false_iff_not, beq_iff_eq, beq_eq_false_iff_ne, bne_iff_ne, bne_eq_false_iff_eq, ne_eq, reduceCtorEq] at hcond))
        | simp only [qset, Nat.reduceEqDiff, reduceIte]
        | ((apply EndQ.ret1 rfl); (· (simp only [look_cons, Nat.reduceBEq, cond_true, cond_false] <;> exact rfl)))
        | ((apply EndQ.ret2 rfl); (· (simp only [look_cons, Nat.reduceBEq, cond_true, cond_false] <;> exact rfl)); (· (simp only [look_cons, Nat.reduceBEq, cond_true, cond_false] <;> exact rfl)))
        | (refine EndQ.ret0 rfl ?_)
        | (refine EndQ.nor0 rfl ?_)
      refine ⟨?_, j + 1, ?_, ?_, by dsimp only; omega⟩
      · (simp only [vset, wset, ints, bools, strs, undefM, Nat.reduceLT, Nat.reduceAdd, Nat.reduceBEq, Int.reduceToNat] <;> exact rfl)
      · (simp (disch := omega) only [vset, wset, ints, bools, strs, undefM, Nat.reduceLT, Nat.reduceAdd, Nat.reduceBEq, Int.reduceToNat, Int.natCast_add, Int.cast_ofNat_Int] <;> first | done | exact rfl)
      exact ⟨by omega, hge2.set (by omega) _, (VH.set_get _ _ _).trans (by rw [← mid_next h2, List.map_set, byM_def, hlo])⟩
    · have hlo : lo l[j] = l[j] := by rw [lo, if_neg hup]
      by_cases h65 : 65 ≤ l[j].toNat
      · repeat' first
          | with_reducible refine VC.seq' ?_
          | with_reducible refine VC.block' ?_
          | with_reducible refine VC.skip ?_
          | with_reducible refine VC.label ?_
          | with_reducible refine VC.scope ?_
          | with_reducible refine VC.exit ?_
          | with_reducible refine VC.ret ?_
          | with_reducible refine VL.nil ?_
          | ((first | with_reducible apply VC.plainL | with_reducible apply VC.readsL (by kernel_rfl) (by kernel_rfl) (by kernel_rfl)); (with_reducible apply VL.run tabOk); (· (simp (disch := omega) only [vset, wset, ints, bools, strs, undefM, Nat.reduceLT, Nat.reduceAdd, Nat.reduceBEq, Int.reduceToNat, vix_asl ty37 ty5, vload_p ty5 rfl hb, hat, byM_def] <;> exact rfl)))
          | ((with_reducible apply VC.cond); (· (simp (disch := omega) only [vset, wset, ints, bools, strs, undefM, Nat.reduceLT, Nat.reduceAdd, Nat.reduceBEq, Int.reduceToNat, vix_asl ty37 ty5, vload_p ty5 rfl hb, hat, byM_def] <;> exact rfl)); all_goals (intro hcond; try simp only [decide_eq_true_eq, decide_eq_false_iff_not, beq_iff_eq, beq_eq_false_iff_ne, bne_iff_ne, bne_eq_false_iff_eq, ne_eq, reduceCtorEq] at hcond))
          | simp only [qset, Nat.reduceEqDiff, reduceIte]
          | ((apply EndQ.ret1 rfl); (· (simp only [look_cons, Nat.reduceBEq, cond_true, cond_false] <;> exact rfl)))
          | ((apply EndQ.ret2 rfl); (· (simp only [look_cons, Nat.reduceBEq, cond_true, cond_false] <;> exact rfl)); (· (simp only [look_cons, Nat.reduceBEq, cond_true, cond_false] <;> exact rfl)))
          | (refine EndQ.ret0 rfl ?_)
          | (refine EndQ.nor0 rfl ?_)
        refine ⟨?_, j + 1, ?_, ?_, by dsimp only; omega⟩
        · (simp only [vset, wset, ints, bools, strs, undefM, Nat.reduceLT, Nat.reduceAdd, Nat.reduceBEq, Int.reduceToNat] <;> exact rfl)
        · (simp (disch := omega) only [vset, wset, ints, bools, strs, undefM, Nat.reduceLT, Nat.reduceAdd, Nat.reduceBEq, Int.reduceToNat, Int.natCast_add, Int.cast_ofNat_Int] <;> first | done | exact rfl)
        exact ⟨by omega, hge2, by rw [← mid_same h2 hlo]; exact hb⟩
      · repeat' first
          | with_reducible refine VC.seq' ?_
          | with_reducible refine VC.block' ?_
          | with_reducible refine VC.skip ?_
          | with_reducible refine VC.label ?_
          | with_reducible refine VC.scope ?_
          | with_reducible refine VC.exit ?_
          | with_reducible refine VC.ret ?_
          | with_reducible refine VL.nil ?_
          | ((first | with_reducible apply VC.plainL | with_reducible apply VC.readsL (by kernel_rfl) (by kernel_rfl) (by kernel_rfl)); (with_reducible apply VL.run tabOk); (· (simp (disch := omega) only [vset, wset, ints, bools, strs, undefM, Nat.reduceLT, Nat.reduceAdd, Nat.reduceBEq, Int.reduceToNat, vix_asl ty37 ty5, vload_p ty5 rfl hb, hat, byM_def] <;> exact rfl)))
          | ((with_reducible apply VC.cond); (· (simp (disch := omega) only [vset, wset, ints, bools, strs, undefM, Nat.reduceLT, Nat.reduceAdd, Nat.reduceBEq, Int.reduceToNat, vix_asl ty37 ty5, vload_p ty5 rfl hb, hat, byM_def] <;> exact rfl)); all_goals (intro hcond; try simp only [decide_eq_true_eq, decide_eq_false_iff_not, beq_iff_eq, beq_eq_false_iff_ne, bne_iff_ne, bne_eq_false_iff_eq, ne_eq, reduceCtorEq] at hcond))
          | simp only [qset, Nat.reduceEqDiff, reduceIte]
          | ((apply EndQ.ret1 rfl); (· (simp only [look_cons, Nat.reduceBEq, cond_true, cond_false] <;> exact rfl)))
          | ((apply EndQ.ret2 rfl); (· (simp only [look_cons, Nat.reduceBEq, cond_true, cond_false] <;> exact rfl)); (· (simp only [look_cons, Nat.reduceBEq, cond_true, cond_false] <;> exact rfl)))
          | (refine EndQ.ret0 rfl ?_)
          | (refine EndQ.nor0 rfl ?_)
        refine ⟨?_, j + 1, ?_, ?_, by dsimp only; omega⟩
        · (simp only [vset, wset, ints, bools, strs, undefM, Nat.reduceLT, Nat.reduceAdd, Nat.reduceBEq, Int.reduceToNat] <;> exact rfl)
        · (simp (disch := omega) only [vset, wset, ints, bools, strs, undefM, Nat.reduceLT, Nat.reduceAdd, Nat.reduceBEq, Int.reduceToNat, Int.natCast_add, Int.cast_ofNat_Int] <;> first | done | exact rfl)
        exact ⟨by omega, hge2, by rw [← mid_same h2 hlo]; exact hb⟩
  · obtain rfl : j = l.length := by omega
    rw [mid_end] at hb
    repeat' first
      | with_reducible refine VC.seq' ?_
      | with_reducible refine VC.block' ?_
      | with_reducible refine VC.skip ?_
      | with_reducible refine VC.label ?_
      | with_reducible refine VC.scope ?_
      | with_reducible refine VC.exit ?_
      | with_reducible refine VC.ret ?_
      | with_reducible refine VL.nil ?_
      | ((first | with_reducible apply VC.plainL | with_reducible apply VC.readsL (by kernel_rfl) (by kernel_rfl) (by kernel_rfl)); (with_reducible apply VL.run tabOk); (· (simp (disch := omega) only [vset, wset, ints, bools, strs, undefM, Nat.reduceLT, Nat.reduceAdd, Nat.reduceBEq, Int.reduceToNat, cv_bs ty37 ty9] <;> exact rfl)))
      | ((with_reducible apply VC.cond); (· (simp (disch := omega) only [vset, wset, ints, bools, strs, undefM, Nat.reduceLT, Nat.reduceAdd, Nat.reduceBEq, Int.reduceToNat, cv_bs ty37 ty9] <;> exact rfl)); all_goals (intro hcond; try simp only [decide_eq_true_eq, decide_eq_false_iff_not, beq_iff_eq, beq_eq_false_iff_ne, bne_iff_ne, bne_eq_false_iff_eq, ne_eq, reduceCtorEq] at hcond))
      | simp only [qset, Nat.reduceEqDiff, reduceIte]
      | ((apply EndQ.ret1 rfl); (· (simp only [look_cons, Nat.reduceBEq, cond_true, cond_false] <;> exact rfl)))
      | ((apply EndQ.ret2 rfl); (· (simp only [look_cons, Nat.reduceBEq, cond_true, cond_false] <;> exact rfl)); (· (simp only [look_cons, Nat.reduceBEq, cond_true, cond_false] <;> exact rfl)))
      | (refine EndQ.ret0 rfl ?_)
      | (refine EndQ.nor0 rfl ?_)
    apply VL.textA tabOk (el := 5) (l := (l.map lo)) (hs := by rw [ty37]; rfl) (hds := by rw [ty9]; rfl) (he := by rw [ty5]; rfl) (hk := hb) (hcs := (by rw [List.drop_zero, List.take_of_length_le (by simp)]))
    · (simp (disch := omega) only [vset, wset, ints, bools, strs, undefM, Nat.reduceLT, Nat.reduceAdd, Nat.reduceBEq, Int.reduceToNat] <;> exact rfl)
    · (simp (disch := omega) only [vset, wset, ints, bools, strs, undefM, Nat.reduceLT, Nat.reduceAdd, Nat.reduceBEq, Int.reduceToNat] <;> exact rfl)
    · simp
    · exact rfl
    apply VL.run tabOk
    · (simp (disch := omega) only [vset, wset, ints, bools, strs, undefM, Nat.reduceLT, Nat.reduceAdd, Nat.reduceBEq, Int.reduceToNat] <;> exact rfl)
    repeat' first
      | with_reducible refine VC.seq' ?_
      | with_reducible refine VC.block' ?_
      | with_reducible refine VC.skip ?_
      | with_reducible refine VC.label ?_
      | with_reducible refine VC.scope ?_
      | with_reducible refine VC.exit ?_
      | with_reducible refine VC.ret ?_
      | with_reducible refine VL.nil ?_
      | ((first | with_reducible apply VC.plainL | with_reducible apply VC.readsL (by kernel_rfl) (by kernel_rfl) (by kernel_rfl)); (with_reducible apply VL.run tabOk); (· (simp (disch := omega) only [vset, wset, ints, bools, strs, undefM, Nat.reduceLT, Nat.reduceAdd, Nat.reduceBEq, Int.reduceToNat] <;> exact rfl)))
      | ((with_reducible apply VC.cond); (· (simp (disch := omega) only [vset, wset, ints, bools, strs, undefM, Nat.reduceLT, Nat.reduceAdd, Nat.reduceBEq, Int.reduceToNat] <;> exact rfl)); all_goals (intro hcond; try simp only [decide_eq_true_eq, decide_eq_false_iff_not, beq_iff_eq, beq_eq_false_iff_ne, bne_iff_ne, bne_eq_false_iff_eq, ne_eq, reduceCtorEq] at hcond))
      | simp only [qset, Nat.reduceEqDiff, reduceIte]
      | ((apply EndQ.ret1 rfl); (· (simp only [look_cons, Nat.reduceBEq, cond_true, cond_false] <;> exact rfl)))
      | ((apply EndQ.ret2 rfl); (· (simp only [look_cons, Nat.reduceBEq, cond_true, cond_false] <;> exact rfl)); (· (simp only [look_cons, Nat.reduceBEq, cond_true, cond_false] <;> exact rfl)))
      | (refine EndQ.ret0 rfl ?_)
      | (refine EndQ.nor0 rfl ?_)
    exact ⟨by trivial, hge2⟩

/-- chars.IsDigit -/
theorem IsDigit_v (b : UInt8) (O : VH) : VF Tryd.prog 40 [byM b] O (Ret fun m O' => m = mb (isD b) ∧ O' = O) := by
  have hb8 : b.toNat < 256 := b.toNat_lt
  refine VF.enter' tabOk Tryd.func40 (c := _) rfl (Nat.le_of_ble_eq_true rfl) ?_
  rw [show Tryd.f40.ntmps = 9 from rfl]
  simp only [argEnv, Nat.zero_add, Nat.reduceAdd]
  by_cases h1 : 48 ≤ b.toNat
  · by_cases h2 : b.toNat ≤ 57
    · repeat' first
        | with_reducible refine VC.seq' ?_
        | with_reducible refine VC.block' ?_
        | with_reducible refine VC.skip ?_
        | with_reducible refine VC.label ?_
        | with_reducible refine VC.scope ?_
        | with_reducible refine VC.exit ?_
        | with_reducible refine VC.ret ?_
        | with_reducible refine VL.nil ?_
        | ((first | with_reducible apply VC.plainL | with_reducible apply VC.readsL (by kernel_rfl) (by kernel_rfl) (by kernel_rfl)); (with_reducible apply VL.run tabOk); (· (simp (disch := omega) only [vset, wset, ints, bools, strs, undefM, Nat.reduceLT, Nat.reduceAdd, Nat.reduceBEq, Int.reduceToNat, byM_def] <;> exact rfl)))
        | ((with_reducible apply VC.cond); (· (simp (disch := omega) only [vset, wset, ints, bools, strs, undefM, Nat.reduceLT, Nat.reduceAdd, Nat.reduceBEq, Int.reduceToNat, byM_def] <;> exact rfl)); all_goals (intro hcond; try simp only [decide_eq_true_eq, decide_eq_false_iff_not, beq_iff_eq, beq_eq_false_iff_ne, bne_iff_ne, bne_eq_false_iff_eq, ne_eq, reduceCtorEq] at hcond))
        | simp only [qset, Nat.reduceEqDiff, reduceIte]
        | ((apply EndQ.ret1 rfl); (· (simp only [look_cons, Nat.reduceBEq, cond_true, cond_false] <;> exact rfl)))
        | ((apply EndQ.ret2 rfl); (· (simp only [look_cons, Nat.reduceBEq, cond_true, cond_false] <;> exact rfl)); (· (simp only [look_cons, Nat.reduceBEq, cond_true, cond_false] <;> exact rfl)))
        | (refine EndQ.ret0 rfl ?_)
        | (refine EndQ.nor0 rfl ?_)
      exact ⟨by simp [isD, h1, h2, mb_def], by trivial⟩
    · repeat' first
        | with_reducible refine VC.seq' ?_
        | with_reducible refine VC.block' ?_
        | with_reducible refine VC.skip ?_
        | with_reducible refine VC.label ?_
        | with_reducible refine VC.scope ?_
        | with_reducible refine VC.exit ?_
        | with_reducible refine VC.ret ?_
        | with_reducible refine VL.nil ?_
        | ((first | with_reducible apply VC.plainL | with_reducible apply VC.readsL (by kernel_rfl) (by kernel_rfl) (by kernel_rfl)); (with_reducible apply VL.run tabOk); (· (simp (disch := omega) only [vset, wset, ints, bools, strs, undefM, Nat.reduceLT, Nat.reduceAdd, Nat.reduceBEq, Int.reduceToNat, byM_def] <;> exact rfl)))
        | ((with_reducible apply VC.cond); (· (simp (disch := omega) only [vset, wset, ints, bools, strs, undefM, Nat.reduceLT, Nat.reduceAdd, Nat.reduceBEq, Int.reduceToNat, byM_def] <;> exact rfl)); all_goals (intro hcond; try simp only [decide_eq_true_eq, decide_eq_false_iff_not, beq_iff_eq, beq_eq_false_iff_ne, bne_iff_ne, bne_eq_false_iff_eq, ne_eq, reduceCtorEq] at hcond))
        | simp only [qset, Nat.reduceEqDiff, reduceIte]
        | ((apply EndQ.ret1 rfl); (· (simp only [look_cons, Nat.reduceBEq, cond_true, cond_false] <;> exact rfl)))
        | ((apply EndQ.ret2 rfl); (· (simp only [look_cons, Nat.reduceBEq, cond_true, cond_false] <;> exact rfl)); (· (simp only [look_cons, Nat.reduceBEq, cond_true, cond_false] <;> exact rfl)))
        | (refine EndQ.ret0 rfl ?_)
        | (refine EndQ.nor0 rfl ?_)
      exact ⟨by simp [isD, h2, mb_def], by trivial⟩
  · repeat' first
      | with_reducible refine VC.seq' ?_
      | with_reducible refine VC.block' ?_
      | with_reducible refine VC.skip ?_
      | with_reducible refine VC.label ?_
      | with_reducible refine VC.scope ?_
      | with_reducible refine VC.exit ?_
      | with_reducible refine VC.ret ?_
      | with_reducible refine VL.nil ?_
      | ((first | with_reducible apply VC.plainL | with_reducible apply VC.readsL (by kernel_rfl) (by kernel_rfl) (by kernel_rfl)); (with_reducible apply VL.run tabOk); (· (simp (disch := omega) only [vset, wset, ints, bools, strs, undefM, Nat.reduceLT, Nat.reduceAdd, Nat.reduceBEq, Int.reduceToNat, byM_def] <;> exact rfl)))
      | ((with_reducible apply VC.cond); (· (simp (disch := omega) only [vset, wset, ints, bools, strs, undefM, Nat.reduceLT, Nat.reduceAdd, Nat.reduceBEq, Int.reduceToNat, byM_def] <;> exact rfl)); all_goals (intro hcond; try simp only [decide_eq_true_eq, decide_eq_false_iff_not, beq_iff_eq, beq_eq_false_iff_ne, bne_iff_ne, bne_eq_false_iff_eq, ne_eq, reduceCtorEq] at hcond))
      | simp only [qset, Nat.reduceEqDiff, reduceIte]
      | ((apply EndQ.ret1 rfl); (· (simp only [look_cons, Nat.reduceBEq, cond_true, cond_false] <;> exact rfl)))
      | ((apply EndQ.ret2 rfl); (· (simp only [look_cons, Nat.reduceBEq, cond_true, cond_false] <;> exact rfl)); (· (simp only [look_cons, Nat.reduceBEq, cond_true, cond_false] <;> exact rfl)))
      | (refine EndQ.ret0 rfl ?_)
      | (refine EndQ.nor0 rfl ?_)
    exact ⟨by simp [isD, h1, mb_def], by trivial⟩
end Go.Proofs.YtjbpnhmjnkolbaaDoor
