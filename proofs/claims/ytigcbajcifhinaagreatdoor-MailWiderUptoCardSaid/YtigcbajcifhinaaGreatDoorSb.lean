/- What the proof of LawMailWider builds upon, part 2: contracts of the program's functions, by walks through their code. -/
import Derived.Test.YtigcbajcifhinaaGreatDoorProg
import Derived.Shelf.Small.Strs
import Derived.Shelf.Small.Utf8
import Derived.Shelf.Strconv.Atoi
import Derived.Shelf.Strings.Cut
import Derived.Shelf.Strings.Prefix
import Derived.Shelf.Strings.Search3
import Derived.Shelf.Strings.Split
import Derived.Shelf.Strings.Trim
import Derived.Shelf.Unicode.DecodeAny
import Derived.Shelf.Unicode.DecodeSlow
import Derived.Shelf.Strings.BuilderK
import Derived.Shelf.Utf8.AppendRune
import Derived.Shelf.Small.Bits
import Derived.Shelf.Strconv.Itoa0
import Derived.Shelf.Strings.FieldsFuncAny
import Derived.Ground.SlgnProg
import Derived.Shelf.SlicesE.Compact
import Derived.Shelf.Small.Wraps
import Derived.Shelf.Strings.BuilderF
import Derived.ProofKit
import Derived.OpenShut
import Derived.ShutString
import Derived.ChangeOld
import Derived.SizedLaws
import Derived.Deep.DeepHandedRow
import Derived.Lib.LaidTab
import Derived.Lib.LaidU8
import Derived.Shelf.Vars
import Derived.Test.YtigcbajcifhinaaGreatDoorCards
import Derived.Test.YtigcbajcifhinaaGreatDoorTie
import Derived.LoopTactic
import Derived.WalkLawsBesides
import Derived.Lib.Hide
import Derived.Shelf.Unicode.DecodeLastEight
import Derived.Lib.RuneBytes
import Derived.Laws.Externs
import Derived.ScopeJumps
import Derived.WalkMore
import Derived.Laws.Tables
import Derived.Laws.CopyOwn
import Derived.Shelf.Strings.SlTrimAscii
import Derived.Deep.RegionWith
import Derived.Test.YtigcbajcifhinaaGreatDoorSa
set_option linter.unusedVariables false
set_option linter.unusedSimpArgs false
namespace Go.Proofs.YtigcbajcifhinaaGreatDoor.V
open Go.RowKit Go.Proofs.YtigcbajcifhinaaGreatDoorW.PrintWords Go.Proofs.YtigcbajcifhinaaGreatDoorW.PrintLast Go.Proofs.YtigcbajcifhinaaGreatDoorW.PrintMore
attribute [local go_sem] max2_int min2_int max_two min_two max_three min_three max_four min_four
def errW : Option Int → Value
 | none => .nilIface
 | some c => .iface 0 (.int .i64 c)
theorem errW_none : errW none = .nilIface := rfl
theorem errW_some (c : Int) : errW (some c) = .iface 0 (.int .i64 c) := rfl
theorem info9 : (Tryz.prog.info? 9).map (fun i => (i.zero, i.size, i.bytes)) = some (some (.string ⟨#[]⟩), 1, 16) := by kernel_rfl
theorem info21 : (Tryz.prog.info? 21).map (fun i => (i.zero, i.size, i.bytes)) = some (some (.int .i32 0), 1, 4) := by kernel_rfl
theorem info30 : (Tryz.prog.info? 30).map (fun i => (i.zero, i.size, i.bytes)) = some (some (.slice none 0 0), 1, 24) := by kernel_rfl
theorem info43 : (Tryz.prog.info? 43).map (fun i => (i.zero, i.size, i.bytes)) = some (some (.agg #[(.string ⟨#[]⟩), (.string ⟨#[]⟩)]), 2, 32) := by kernel_rfl
structure S43 where
 f0 : ByteArray
 f1 : ByteArray
def z43 : S43 := ⟨(⟨#[]⟩ : ByteArray), (⟨#[]⟩ : ByteArray)⟩
def k43 : Kd S43 := Kd.iso (Kd.pair Kd.string Kd.string) (fun x : S43 => (x.f0, x.f1))
theorem k43_open {w : World} {x : S43} {cs : List Value} (h : k43.K w x cs) : cs = [.string x.f0, .string x.f1] := by
 obtain ⟨_, _, rfl, rfl, rfl⟩ := h
 exact rfl
theorem k43_openM {w : World} {base : Nat} {ok : Nat → Prop} {x : S43} {cs : List Value} (h : k43.M w base ok x cs) : cs = [.string x.f0, .string x.f1] := by
 obtain ⟨_, _, rfl, rfl, rfl⟩ := h
 exact rfl
theorem k43_mkM (w : World) (base : Nat) (ok : Nat → Prop) (x : S43)  : k43.M w base ok x [.string x.f0, .string x.f1] := ⟨[.string x.f0], [.string x.f1], rfl, rfl, rfl⟩
def rd_T43 (xs : List S43) (i : Int) : S43 := xs.getD i.toNat z43
theorem at_T43 {w : World} {A : Option Addr} {n : Nat} {xs : List S43} (h : Kd.C k43 w A n xs) (i : Int) (h0 : 0 ≤ i) (h1 : i < n) : ∃ ad , A = some ad ∧ w.cell? (ad.add (i.toNat * 2)) = some (.string (rd_T43 xs i).f0) ∧ w.cell? ⟨(ad.add (i.toNat * 2)).block, (ad.add (i.toNat * 2)).off + 1, none⟩ = some (.string (rd_T43 xs i).f1) := by
 obtain ⟨ad, c, e, _, hK, hc0⟩ := Kd.C_get h z43 i h0 h1
 have hc : ∀ j u, c[j]? = some u → w.cell? (ad.add (i.toNat * 2 + j)) = some u := hc0
 obtain rfl := k43_open hK
 exact ⟨ad, e, hc 0 _ rfl, by rw [← add_field _ _ 1 (by omega)]; exact hc 1 _ rfl⟩
structure S53 where
 f0 : Int
 f1 : ByteArray
 f2 : ByteArray
 f3 : ByteArray
 f4 : ByteArray
def z53 : S53 := ⟨(0 : Int), (⟨#[]⟩ : ByteArray), (⟨#[]⟩ : ByteArray), (⟨#[]⟩ : ByteArray), (⟨#[]⟩ : ByteArray)⟩
def k53 : Kd S53 := Kd.iso (Kd.pair (Kd.int .i64) (Kd.pair Kd.string (Kd.pair Kd.string (Kd.pair Kd.string Kd.string)))) (fun x : S53 => (x.f0, x.f1, x.f2, x.f3, x.f4))
theorem k53_open {w : World} {x : S53} {cs : List Value} (h : k53.K w x cs) : cs = [.int .i64 x.f0, .string x.f1, .string x.f2, .string x.f3, .string x.f4] := by
 obtain ⟨_, _, rfl, rfl, ⟨_, _, rfl, rfl, ⟨_, _, rfl, rfl, ⟨_, _, rfl, rfl, rfl⟩⟩⟩⟩ := h
 exact rfl
theorem k53_mkM (w : World) (base : Nat) (ok : Nat → Prop) (x : S53)  : k53.M w base ok x [.int .i64 x.f0, .string x.f1, .string x.f2, .string x.f3, .string x.f4] := ⟨[.int .i64 x.f0], [.string x.f1, .string x.f2, .string x.f3, .string x.f4], rfl, rfl, ⟨[.string x.f1], [.string x.f2, .string x.f3, .string x.f4], rfl, rfl, ⟨[.string x.f2], [.string x.f3, .string x.f4], rfl, rfl, ⟨[.string x.f3], [.string x.f4], rfl, rfl, rfl⟩⟩⟩⟩
def rd_T53 (xs : List S53) (i : Int) : S53 := xs.getD i.toNat z53
theorem at_T53 {w : World} {A : Option Addr} {n : Nat} {xs : List S53} (h : Kd.C k53 w A n xs) (i : Int) (h0 : 0 ≤ i) (h1 : i < n) : ∃ ad , A = some ad ∧ w.cell? (ad.add (i.toNat * 5)) = some (.int .i64 (rd_T53 xs i).f0) ∧ w.cell? ⟨(ad.add (i.toNat * 5)).block, (ad.add (i.toNat * 5)).off + 1, none⟩ = some (.string (rd_T53 xs i).f1) ∧ w.cell? ⟨(ad.add (i.toNat * 5)).block, (ad.add (i.toNat * 5)).off + 2, none⟩ = some (.string (rd_T53 xs i).f2) ∧ w.cell? ⟨(ad.add (i.toNat * 5)).block, (ad.add (i.toNat * 5)).off + 3, none⟩ = some (.string (rd_T53 xs i).f3) ∧ w.cell? ⟨(ad.add (i.toNat * 5)).block, (ad.add (i.toNat * 5)).off + 4, none⟩ = some (.string (rd_T53 xs i).f4) := by
 obtain ⟨ad, c, e, _, hK, hc0⟩ := Kd.C_get h z53 i h0 h1
 have hc : ∀ j u, c[j]? = some u → w.cell? (ad.add (i.toNat * 5 + j)) = some u := hc0
 obtain rfl := k53_open hK
 exact ⟨ad, e, hc 0 _ rfl, by rw [← add_field _ _ 1 (by omega)]; exact hc 1 _ rfl, by rw [← add_field _ _ 2 (by omega)]; exact hc 2 _ rfl, by rw [← add_field _ _ 3 (by omega)]; exact hc 3 _ rfl, by rw [← add_field _ _ 4 (by omega)]; exact hc 4 _ rfl⟩
end Go.Proofs.YtigcbajcifhinaaGreatDoor.V
namespace Go.Proofs
open Go.Shelf
def Tryz.lays137_ren : Go.Shelf.Ren := ⟨fun | 137 => 40 | 217 => 77 | 266 => 107 | n => n, fun | 3 => 3 | 5 => 5 | 9 => 9 | n => n, fun | n => n⟩
theorem Tryz.lays137 : Go.Proofs.Lays.n137 Tryz.prog Tryz.lays137_ren := {
 mixed := by kernel_rfl
 f137 := Tryz.func40.trans (congrArg some (by kernel_rfl))
 f217 := Tryz.func77.trans (congrArg some (by kernel_rfl))
 f266 := Tryz.func107.trans (congrArg some (by kernel_rfl))
 t3 := Tryz.underlying3
 a3 := Tryz.isAgg3
 z3 := Tryz.sizeOf3
 v3 := Tryz.zeroValue3
 t5 := Tryz.underlying5
 a5 := Tryz.isAgg5
 z5 := Tryz.sizeOf5
 v5 := Tryz.zeroValue5
 t9 := Tryz.underlying9
 a9 := Tryz.isAgg9
 z9 := Tryz.sizeOf9
 v9 := Tryz.zeroValue9 }
open Go.RowKit in
theorem Tryz.strings_IndexByte (s : ByteArray) (c : Int) (w : World) :
  Calls Tryz.prog 40 #[.string s, .int .u8 c] w fun e w' => e = .returned (.int .i64 (Lib.indexByte s.data.toList c.toNat.toUInt8)) ∧ w' = w := Any.strings_IndexByte Tryz.lays137 s c w
def Tryz.lays160_ren : Go.Shelf.Ren := ⟨fun | 119 => 63 | 120 => 145 | 137 => 40 | 151 => 104 | 152 => 144 | 160 => 35 | 197 => 64 | 217 => 77 | 224 => 142 | 225 => 141 | 227 => 70 | 228 => 103 | 231 => 68 | 232 => 69 | 233 => 71 | 234 => 72 | 235 => 73 | 236 => 74 | 260 => 101 | 266 => 107 | 271 => 105 | n => n, fun | 0 => 0 | 3 => 3 | 4 => 4 | 5 => 5 | 9 => 9 | 21 => 21 | 46 => 61 | 105 => 116 | 116 => 121 | 117 => 122 | 119 => 161 | 124 => 125 | 138 => 182 | 139 => 183 | n => n, fun | 3 => 1 | 4 => 2 | n => n⟩
theorem Tryz.lays160 : Go.Proofs.Lays.n160 Tryz.prog Tryz.lays160_ren := {
 mixed := by kernel_rfl
 f119 := Tryz.func63.trans (congrArg some (by kernel_rfl))
 f120 := Tryz.func145.trans (congrArg some (by kernel_rfl))
 f137 := Tryz.func40.trans (congrArg some (by kernel_rfl))
 f151 := Tryz.func104.trans (congrArg some (by kernel_rfl))
 f152 := Tryz.func144.trans (congrArg some (by kernel_rfl))
 f160 := Tryz.func35.trans (congrArg some (by kernel_rfl))
 f197 := Tryz.func64.trans (congrArg some (by kernel_rfl))
 f217 := Tryz.func77.trans (congrArg some (by kernel_rfl))
 f224 := Tryz.func142.trans (congrArg some (by kernel_rfl))
 f225 := Tryz.func141.trans (congrArg some (by kernel_rfl))
 f227 := Tryz.func70.trans (congrArg some (by kernel_rfl))
 f228 := Tryz.func103.trans (congrArg some (by kernel_rfl))
 f231 := Tryz.func68.trans (congrArg some (by kernel_rfl))
 f232 := Tryz.func69.trans (congrArg some (by kernel_rfl))
 f233 := Tryz.func71.trans (congrArg some (by kernel_rfl))
 f234 := Tryz.func72.trans (congrArg some (by kernel_rfl))
 f235 := Tryz.func73.trans (congrArg some (by kernel_rfl))
 f236 := Tryz.func74.trans (congrArg some (by kernel_rfl))
 f260 := Tryz.func101.trans (congrArg some (by kernel_rfl))
 f266 := Tryz.func107.trans (congrArg some (by kernel_rfl))
 f271 := Tryz.func105.trans (congrArg some (by kernel_rfl))
 t0 := Tryz.underlying0
 a0 := Tryz.isAgg0
 z0 := Tryz.sizeOf0
 v0 := Tryz.zeroValue0
 t3 := Tryz.underlying3
 a3 := Tryz.isAgg3
 z3 := Tryz.sizeOf3
 v3 := Tryz.zeroValue3
 t4 := Tryz.underlying4
 a4 := Tryz.isAgg4
 z4 := Tryz.sizeOf4
 v4 := Tryz.zeroValue4
 t5 := Tryz.underlying5
 a5 := Tryz.isAgg5
 z5 := Tryz.sizeOf5
 v5 := Tryz.zeroValue5
 t9 := Tryz.underlying9
 a9 := Tryz.isAgg9
 z9 := Tryz.sizeOf9
 v9 := Tryz.zeroValue9
 t21 := Tryz.underlying21
 a21 := Tryz.isAgg21
 z21 := Tryz.sizeOf21
 v21 := Tryz.zeroValue21
 t46 := Tryz.underlying61
 a46 := Tryz.isAgg61
 z46 := Tryz.sizeOf61
 v46 := Tryz.zeroValue61
 t105 := Tryz.underlying116
 a105 := Tryz.isAgg116
 z105 := Tryz.sizeOf116
 v105 := Tryz.zeroValue116
 t116 := Tryz.underlying121
 a116 := Tryz.isAgg121
 z116 := Tryz.sizeOf121
 t117 := Tryz.underlying122
 a117 := Tryz.isAgg122
 z117 := Tryz.sizeOf122
 v117 := Tryz.zeroValue122
 t119 := Tryz.underlying161
 a119 := Tryz.isAgg161
 z119 := Tryz.sizeOf161
 t124 := Tryz.underlying125
 a124 := Tryz.isAgg125
 z124 := Tryz.sizeOf125
 v124 := Tryz.zeroValue125
 t138 := Tryz.underlying182
 a138 := Tryz.isAgg182
 z138 := Tryz.sizeOf182
 v138 := Tryz.zeroValue182
 t139 := Tryz.underlying183
 a139 := Tryz.isAgg183
 z139 := Tryz.sizeOf183
 v139 := Tryz.zeroValue183
 g3 := by kernel_rfl
 g4 := by kernel_rfl }
def Tryz.lays162_ren : Go.Shelf.Ren := ⟨fun | 119 => 63 | 120 => 145 | 137 => 40 | 151 => 104 | 152 => 144 | 162 => 120 | 197 => 64 | 217 => 77 | 224 => 142 | 225 => 141 | 227 => 70 | 228 => 103 | 232 => 69 | 234 => 72 | 236 => 74 | 260 => 101 | 266 => 107 | 271 => 105 | n => n, fun | 0 => 0 | 3 => 3 | 4 => 4 | 5 => 5 | 9 => 9 | 21 => 21 | 46 => 61 | 105 => 116 | 116 => 121 | 117 => 122 | 119 => 161 | 124 => 125 | 138 => 182 | 139 => 183 | n => n, fun | 3 => 1 | 4 => 2 | n => n⟩
theorem Tryz.lays162 : Go.Proofs.Lays.n162 Tryz.prog Tryz.lays162_ren := {
 mixed := by kernel_rfl
 f119 := Tryz.func63.trans (congrArg some (by kernel_rfl))
 f120 := Tryz.func145.trans (congrArg some (by kernel_rfl))
 f137 := Tryz.func40.trans (congrArg some (by kernel_rfl))
 f151 := Tryz.func104.trans (congrArg some (by kernel_rfl))
 f152 := Tryz.func144.trans (congrArg some (by kernel_rfl))
 f162 := Tryz.func120.trans (congrArg some (by kernel_rfl))
 f197 := Tryz.func64.trans (congrArg some (by kernel_rfl))
 f217 := Tryz.func77.trans (congrArg some (by kernel_rfl))
 f224 := Tryz.func142.trans (congrArg some (by kernel_rfl))
 f225 := Tryz.func141.trans (congrArg some (by kernel_rfl))
 f227 := Tryz.func70.trans (congrArg some (by kernel_rfl))
 f228 := Tryz.func103.trans (congrArg some (by kernel_rfl))
 f232 := Tryz.func69.trans (congrArg some (by kernel_rfl))
 f234 := Tryz.func72.trans (congrArg some (by kernel_rfl))
 f236 := Tryz.func74.trans (congrArg some (by kernel_rfl))
 f260 := Tryz.func101.trans (congrArg some (by kernel_rfl))
 f266 := Tryz.func107.trans (congrArg some (by kernel_rfl))
 f271 := Tryz.func105.trans (congrArg some (by kernel_rfl))
 t0 := Tryz.underlying0
 a0 := Tryz.isAgg0
 z0 := Tryz.sizeOf0
 v0 := Tryz.zeroValue0
 t3 := Tryz.underlying3
 a3 := Tryz.isAgg3
 z3 := Tryz.sizeOf3
 v3 := Tryz.zeroValue3
 t4 := Tryz.underlying4
 a4 := Tryz.isAgg4
 z4 := Tryz.sizeOf4
 v4 := Tryz.zeroValue4
 t5 := Tryz.underlying5
 a5 := Tryz.isAgg5
 z5 := Tryz.sizeOf5
 v5 := Tryz.zeroValue5
 t9 := Tryz.underlying9
 a9 := Tryz.isAgg9
 z9 := Tryz.sizeOf9
 v9 := Tryz.zeroValue9
 t21 := Tryz.underlying21
 a21 := Tryz.isAgg21
 z21 := Tryz.sizeOf21
 v21 := Tryz.zeroValue21
 t46 := Tryz.underlying61
 a46 := Tryz.isAgg61
 z46 := Tryz.sizeOf61
 v46 := Tryz.zeroValue61
 t105 := Tryz.underlying116
 a105 := Tryz.isAgg116
 z105 := Tryz.sizeOf116
 v105 := Tryz.zeroValue116
 t116 := Tryz.underlying121
 a116 := Tryz.isAgg121
 z116 := Tryz.sizeOf121
 t117 := Tryz.underlying122
 a117 := Tryz.isAgg122
 z117 := Tryz.sizeOf122
 v117 := Tryz.zeroValue122
 t119 := Tryz.underlying161
 a119 := Tryz.isAgg161
 z119 := Tryz.sizeOf161
 t124 := Tryz.underlying125
 a124 := Tryz.isAgg125
 z124 := Tryz.sizeOf125
 v124 := Tryz.zeroValue125
 t138 := Tryz.underlying182
 a138 := Tryz.isAgg182
 z138 := Tryz.sizeOf182
 v138 := Tryz.zeroValue182
 t139 := Tryz.underlying183
 a139 := Tryz.isAgg183
 z139 := Tryz.sizeOf183
 v139 := Tryz.zeroValue183
 g3 := by kernel_rfl
 g4 := by kernel_rfl }
def Tryz.lays161_ren : Go.Shelf.Ren := ⟨fun | 119 => 63 | 137 => 40 | 151 => 104 | 152 => 144 | 161 => 127 | 197 => 64 | 217 => 77 | 224 => 142 | 225 => 141 | 227 => 70 | 228 => 103 | 231 => 68 | 233 => 71 | 235 => 73 | 260 => 101 | 266 => 107 | n => n, fun | 0 => 0 | 3 => 3 | 4 => 4 | 5 => 5 | 9 => 9 | 21 => 21 | 46 => 61 | 105 => 116 | 116 => 121 | 117 => 122 | 119 => 161 | 124 => 125 | 138 => 182 | 139 => 183 | n => n, fun | 3 => 1 | 4 => 2 | n => n⟩
theorem Tryz.lays161 : Go.Proofs.Lays.n161 Tryz.prog Tryz.lays161_ren := {
 mixed := by kernel_rfl
 f119 := Tryz.func63.trans (congrArg some (by kernel_rfl))
 f137 := Tryz.func40.trans (congrArg some (by kernel_rfl))
 f151 := Tryz.func104.trans (congrArg some (by kernel_rfl))
 f152 := Tryz.func144.trans (congrArg some (by kernel_rfl))
 f161 := Tryz.func127.trans (congrArg some (by kernel_rfl))
 f197 := Tryz.func64.trans (congrArg some (by kernel_rfl))
 f217 := Tryz.func77.trans (congrArg some (by kernel_rfl))
 f224 := Tryz.func142.trans (congrArg some (by kernel_rfl))
 f225 := Tryz.func141.trans (congrArg some (by kernel_rfl))
 f227 := Tryz.func70.trans (congrArg some (by kernel_rfl))
 f228 := Tryz.func103.trans (congrArg some (by kernel_rfl))
 f231 := Tryz.func68.trans (congrArg some (by kernel_rfl))
 f233 := Tryz.func71.trans (congrArg some (by kernel_rfl))
 f235 := Tryz.func73.trans (congrArg some (by kernel_rfl))
 f260 := Tryz.func101.trans (congrArg some (by kernel_rfl))
 f266 := Tryz.func107.trans (congrArg some (by kernel_rfl))
 t0 := Tryz.underlying0
 a0 := Tryz.isAgg0
 z0 := Tryz.sizeOf0
 v0 := Tryz.zeroValue0
 t3 := Tryz.underlying3
 a3 := Tryz.isAgg3
 z3 := Tryz.sizeOf3
 v3 := Tryz.zeroValue3
 t4 := Tryz.underlying4
 a4 := Tryz.isAgg4
 z4 := Tryz.sizeOf4
 v4 := Tryz.zeroValue4
 t5 := Tryz.underlying5
 a5 := Tryz.isAgg5
 z5 := Tryz.sizeOf5
 v5 := Tryz.zeroValue5
 t9 := Tryz.underlying9
 a9 := Tryz.isAgg9
 z9 := Tryz.sizeOf9
 v9 := Tryz.zeroValue9
 t21 := Tryz.underlying21
 a21 := Tryz.isAgg21
 z21 := Tryz.sizeOf21
 v21 := Tryz.zeroValue21
 t46 := Tryz.underlying61
 a46 := Tryz.isAgg61
 z46 := Tryz.sizeOf61
 v46 := Tryz.zeroValue61
 t105 := Tryz.underlying116
 a105 := Tryz.isAgg116
 z105 := Tryz.sizeOf116
 v105 := Tryz.zeroValue116
 t116 := Tryz.underlying121
 a116 := Tryz.isAgg121
 z116 := Tryz.sizeOf121
 t117 := Tryz.underlying122
 a117 := Tryz.isAgg122
 z117 := Tryz.sizeOf122
 v117 := Tryz.zeroValue122
 t119 := Tryz.underlying161
 a119 := Tryz.isAgg161
 z119 := Tryz.sizeOf161
 t124 := Tryz.underlying125
 a124 := Tryz.isAgg125
 z124 := Tryz.sizeOf125
 v124 := Tryz.zeroValue125
 t138 := Tryz.underlying182
 a138 := Tryz.isAgg182
 z138 := Tryz.sizeOf182
 v138 := Tryz.zeroValue182
 t139 := Tryz.underlying183
 a139 := Tryz.isAgg183
 z139 := Tryz.sizeOf183
 v139 := Tryz.zeroValue183
 g3 := by kernel_rfl
 g4 := by kernel_rfl }
def Tryz.lays99_ren : Go.Shelf.Ren := ⟨fun | 99 => 52 | 206 => 89 | n => n, fun | 3 => 3 | 4 => 4 | 9 => 9 | n => n, fun | n => n⟩
theorem Tryz.lays99 : Go.Proofs.Lays.n99 Tryz.prog Tryz.lays99_ren := {
 mixed := by kernel_rfl
 f99 := Tryz.func52.trans (congrArg some (by kernel_rfl))
 f206 := Tryz.func89.trans (congrArg some (by kernel_rfl))
 t3 := Tryz.underlying3
 a3 := Tryz.isAgg3
 z3 := Tryz.sizeOf3
 v3 := Tryz.zeroValue3
 t4 := Tryz.underlying4
 a4 := Tryz.isAgg4
 z4 := Tryz.sizeOf4
 v4 := Tryz.zeroValue4
 t9 := Tryz.underlying9
 a9 := Tryz.isAgg9
 z9 := Tryz.sizeOf9
 v9 := Tryz.zeroValue9 }
open Go.RowKit Go.Lib in
theorem Tryz.strings_HasPrefix (s p : ByteArray) (w : World) :
  Calls Tryz.prog 52 #[.string s, .string p] w fun e w' => e = .returned (.bool (Lib.hasPrefix s.data.toList p.data.toList)) ∧ w' = w := Any.strings_HasPrefix Tryz.lays99 s p w
def Tryz.lays102_ren : Go.Shelf.Ren := ⟨fun | 102 => 75 | 207 => 146 | 209 => 106 | n => n, fun | 3 => 3 | 4 => 4 | 9 => 9 | n => n, fun | n => n⟩
theorem Tryz.lays102 : Go.Proofs.Lays.n102 Tryz.prog Tryz.lays102_ren := {
 mixed := by kernel_rfl
 f102 := Tryz.func75.trans (congrArg some (by kernel_rfl))
 f207 := Tryz.func146.trans (congrArg some (by kernel_rfl))
 f209 := Tryz.func106.trans (congrArg some (by kernel_rfl))
 t3 := Tryz.underlying3
 a3 := Tryz.isAgg3
 z3 := Tryz.sizeOf3
 v3 := Tryz.zeroValue3
 t4 := Tryz.underlying4
 a4 := Tryz.isAgg4
 z4 := Tryz.sizeOf4
 v4 := Tryz.zeroValue4
 t9 := Tryz.underlying9
 a9 := Tryz.isAgg9
 z9 := Tryz.sizeOf9
 v9 := Tryz.zeroValue9 }
open Go.RowKit Go.Lib in
theorem Tryz.strings_TrimSuffix (s p : ByteArray) (w : World) (hs : s.size ≤ 9223372036854775807) :
  Calls Tryz.prog 75 #[.string s, .string p] w fun e w' => e = .returned (.string ⟨(Lib.trimSuffix s.data.toList p.data.toList).toArray⟩) ∧ w' = w := Any.strings_TrimSuffix Tryz.lays102 s p w hs
def Tryz.lays147_ren : Go.Shelf.Ren := ⟨fun | 138 => 170 | 143 => 65 | 147 => 110 | 195 => 179 | 197 => 64 | 217 => 77 | 218 => 180 | 219 => 102 | 221 => 148 | 224 => 142 | 225 => 141 | 260 => 101 | 266 => 107 | 267 => 143 | 268 => 169 | 314 => 168 | n => n, fun | 0 => 0 | 3 => 3 | 4 => 4 | 5 => 5 | 9 => 9 | 21 => 21 | 31 => 24 | 46 => 61 | 51 => 163 | 105 => 116 | 119 => 161 | 138 => 182 | 139 => 183 | 146 => 204 | n => n, fun | 1 => 3 | 3 => 1 | 4 => 2 | n => n⟩
theorem Tryz.lays147 : Go.Proofs.Lays.n147 Tryz.prog Tryz.lays147_ren := {
 mixed := by kernel_rfl
 f138 := Tryz.func170.trans (congrArg some (by kernel_rfl))
 f143 := Tryz.func65.trans (congrArg some (by kernel_rfl))
 f147 := Tryz.func110.trans (congrArg some (by kernel_rfl))
 f195 := Tryz.func179.trans (congrArg some (by kernel_rfl))
 f197 := Tryz.func64.trans (congrArg some (by kernel_rfl))
 f217 := Tryz.func77.trans (congrArg some (by kernel_rfl))
 f218 := Tryz.func180.trans (congrArg some (by kernel_rfl))
 f219 := Tryz.func102.trans (congrArg some (by kernel_rfl))
 f221 := Tryz.func148.trans (congrArg some (by kernel_rfl))
 f224 := Tryz.func142.trans (congrArg some (by kernel_rfl))
 f225 := Tryz.func141.trans (congrArg some (by kernel_rfl))
 f260 := Tryz.func101.trans (congrArg some (by kernel_rfl))
 f266 := Tryz.func107.trans (congrArg some (by kernel_rfl))
 f267 := Tryz.func143.trans (congrArg some (by kernel_rfl))
 f268 := Tryz.func169.trans (congrArg some (by kernel_rfl))
 f314 := Tryz.func168.trans (congrArg some (by kernel_rfl))
 t0 := Tryz.underlying0
 a0 := Tryz.isAgg0
 z0 := Tryz.sizeOf0
 v0 := Tryz.zeroValue0
 t3 := Tryz.underlying3
 a3 := Tryz.isAgg3
 z3 := Tryz.sizeOf3
 v3 := Tryz.zeroValue3
 t4 := Tryz.underlying4
 a4 := Tryz.isAgg4
 z4 := Tryz.sizeOf4
 v4 := Tryz.zeroValue4
 t5 := Tryz.underlying5
 a5 := Tryz.isAgg5
 z5 := Tryz.sizeOf5
 v5 := Tryz.zeroValue5
 t9 := Tryz.underlying9
 a9 := Tryz.isAgg9
 z9 := Tryz.sizeOf9
 v9 := Tryz.zeroValue9
 t21 := Tryz.underlying21
 a21 := Tryz.isAgg21
 z21 := Tryz.sizeOf21
 v21 := Tryz.zeroValue21
 t31 := Tryz.underlying24
 a31 := Tryz.isAgg24
 z31 := Tryz.sizeOf24
 v31 := Tryz.zeroValue24
 t46 := Tryz.underlying61
 a46 := Tryz.isAgg61
 z46 := Tryz.sizeOf61
 v46 := Tryz.zeroValue61
 t51 := Tryz.underlying163
 a51 := Tryz.isAgg163
 z51 := Tryz.sizeOf163
 v51 := Tryz.zeroValue163
 t105 := Tryz.underlying116
 a105 := Tryz.isAgg116
 z105 := Tryz.sizeOf116
 v105 := Tryz.zeroValue116
 t119 := Tryz.underlying161
 a119 := Tryz.isAgg161
 z119 := Tryz.sizeOf161
 t138 := Tryz.underlying182
 a138 := Tryz.isAgg182
 z138 := Tryz.sizeOf182
 v138 := Tryz.zeroValue182
 t139 := Tryz.underlying183
 a139 := Tryz.isAgg183
 z139 := Tryz.sizeOf183
 v139 := Tryz.zeroValue183
 t146 := Tryz.underlying204
 a146 := Tryz.isAgg204
 z146 := Tryz.sizeOf204
 v146 := Tryz.zeroValue204
 g1 := by kernel_rfl
 g3 := by kernel_rfl
 g4 := by kernel_rfl }
open Go.RowKit Go.Lib in
theorem Tryz.strings_SplitN (s sep : ByteArray) (n : Nat) (m : Int) (w : World) (hs : s.size < 4294967281) (hm : w.cell? ⟨3, 0, none⟩ = some (.int .i64 m)) (h1 : 1 ≤ sep.size) (hn : 1 ≤ n) (hn63 : n ≤ 9223372036854775807) :
  Calls Tryz.prog 110 #[.string s, .string sep, .int .i64 n] w fun e w' =>
   e = .returned (.slice (some ⟨w.heap.size, 0, none⟩) (Lib.splitB sep 0 (min n (s.size + 1) - 1) s).length (min n (s.size + 1))) ∧ w' = w.alloc (.cells (Lib.cellsOf (Lib.splitB sep 0 (min n (s.size + 1) - 1) s) (min n (s.size + 1))) 9) := Any.strings_SplitN Tryz.lays147 (by kernel_rfl) s sep n m w hs hm h1 hn hn63
def Tryz.lays145_ren : Go.Shelf.Ren := ⟨fun | 145 => 44 | 217 => 77 | 219 => 102 | 220 => 82 | 224 => 142 | 225 => 141 | 266 => 107 | 267 => 143 | 314 => 168 | n => n, fun | 3 => 3 | 4 => 4 | 5 => 5 | 9 => 9 | 46 => 61 | 51 => 163 | 59 => 89 | 146 => 204 | n => n, fun | 1 => 3 | n => n⟩
theorem Tryz.lays145 : Go.Proofs.Lays.n145 Tryz.prog Tryz.lays145_ren := {
 mixed := by kernel_rfl
 f145 := Tryz.func44.trans (congrArg some (by kernel_rfl))
 f217 := Tryz.func77.trans (congrArg some (by kernel_rfl))
 f219 := Tryz.func102.trans (congrArg some (by kernel_rfl))
 f220 := Tryz.func82.trans (congrArg some (by kernel_rfl))
 f224 := Tryz.func142.trans (congrArg some (by kernel_rfl))
 f225 := Tryz.func141.trans (congrArg some (by kernel_rfl))
 f266 := Tryz.func107.trans (congrArg some (by kernel_rfl))
 f267 := Tryz.func143.trans (congrArg some (by kernel_rfl))
 f314 := Tryz.func168.trans (congrArg some (by kernel_rfl))
 t3 := Tryz.underlying3
 a3 := Tryz.isAgg3
 z3 := Tryz.sizeOf3
 v3 := Tryz.zeroValue3
 t4 := Tryz.underlying4
 a4 := Tryz.isAgg4
 z4 := Tryz.sizeOf4
 v4 := Tryz.zeroValue4
 t5 := Tryz.underlying5
 a5 := Tryz.isAgg5
 z5 := Tryz.sizeOf5
 v5 := Tryz.zeroValue5
 t9 := Tryz.underlying9
 a9 := Tryz.isAgg9
 z9 := Tryz.sizeOf9
 v9 := Tryz.zeroValue9
 t46 := Tryz.underlying61
 a46 := Tryz.isAgg61
 z46 := Tryz.sizeOf61
 v46 := Tryz.zeroValue61
 t51 := Tryz.underlying163
 a51 := Tryz.isAgg163
 z51 := Tryz.sizeOf163
 v51 := Tryz.zeroValue163
 t59 := Tryz.underlying89
 a59 := Tryz.isAgg89
 z59 := Tryz.sizeOf89
 v59 := Tryz.zeroValue89
 t146 := Tryz.underlying204
 a146 := Tryz.isAgg204
 z146 := Tryz.sizeOf204
 v146 := Tryz.zeroValue204
 g1 := by kernel_rfl }
open Go.RowKit Go.Lib in
theorem Tryz.strings_Cut (s sep : ByteArray) (m : Int) (w : World) (hs : s.size < 4294967281) (hm : w.cell? ⟨3, 0, none⟩ = some (.int .i64 m)) :
  Calls Tryz.prog 44 #[.string s, .string sep] w fun e w' => e = .returned (.tuple #[.string ⟨(Lib.cut s.data.toList sep.data.toList).1.toArray⟩, .string ⟨(Lib.cut s.data.toList sep.data.toList).2.1.toArray⟩, .bool (Lib.cut s.data.toList sep.data.toList).2.2]) ∧ ∃ n, w' = w.drewN n := Any.strings_Cut Tryz.lays145 s sep m w hs hm
def Tryz.lays144_ren : Go.Shelf.Ren := ⟨fun | 143 => 65 | 144 => 31 | 217 => 77 | 219 => 102 | 224 => 142 | 225 => 141 | 266 => 107 | 267 => 143 | 314 => 168 | n => n, fun | 3 => 3 | 4 => 4 | 5 => 5 | 9 => 9 | 46 => 61 | 51 => 163 | 146 => 204 | n => n, fun | 1 => 3 | n => n⟩
theorem Tryz.lays144 : Go.Proofs.Lays.n144 Tryz.prog Tryz.lays144_ren := {
 mixed := by kernel_rfl
 f143 := Tryz.func65.trans (congrArg some (by kernel_rfl))
 f144 := Tryz.func31.trans (congrArg some (by kernel_rfl))
 f217 := Tryz.func77.trans (congrArg some (by kernel_rfl))
 f219 := Tryz.func102.trans (congrArg some (by kernel_rfl))
 f224 := Tryz.func142.trans (congrArg some (by kernel_rfl))
 f225 := Tryz.func141.trans (congrArg some (by kernel_rfl))
 f266 := Tryz.func107.trans (congrArg some (by kernel_rfl))
 f267 := Tryz.func143.trans (congrArg some (by kernel_rfl))
 f314 := Tryz.func168.trans (congrArg some (by kernel_rfl))
 t3 := Tryz.underlying3
 a3 := Tryz.isAgg3
 z3 := Tryz.sizeOf3
 v3 := Tryz.zeroValue3
 t4 := Tryz.underlying4
 a4 := Tryz.isAgg4
 z4 := Tryz.sizeOf4
 v4 := Tryz.zeroValue4
 t5 := Tryz.underlying5
 a5 := Tryz.isAgg5
 z5 := Tryz.sizeOf5
 v5 := Tryz.zeroValue5
 t9 := Tryz.underlying9
 a9 := Tryz.isAgg9
 z9 := Tryz.sizeOf9
 v9 := Tryz.zeroValue9
 t46 := Tryz.underlying61
 a46 := Tryz.isAgg61
 z46 := Tryz.sizeOf61
 v46 := Tryz.zeroValue61
 t51 := Tryz.underlying163
 a51 := Tryz.isAgg163
 z51 := Tryz.sizeOf163
 v51 := Tryz.zeroValue163
 t146 := Tryz.underlying204
 a146 := Tryz.isAgg204
 z146 := Tryz.sizeOf204
 v146 := Tryz.zeroValue204
 g1 := by kernel_rfl }
open Go.RowKit Go.Lib in
theorem Tryz.strings_Contains (s sub : ByteArray) (m : Int) (w : World) (hs : s.size < 4294967281) (hm : w.cell? ⟨3, 0, none⟩ = some (.int .i64 m)) :
  Calls Tryz.prog 31 #[.string s, .string sub] w fun e w' => e = .returned (.bool (Lib.contains s.data.toList sub.data.toList)) ∧ w' = w := Any.strings_Contains Tryz.lays144 s sub m w hs hm
def Tryz.lays172_ren : Go.Shelf.Ren := ⟨fun | 129 => 140 | 171 => 176 | 172 => 83 | 205 => 175 | 243 => 184 | 244 => 113 | 245 => 114 | 246 => 185 | 247 => 151 | 279 => 152 | 280 => 153 | 281 => 154 | 282 => 155 | 283 => 186 | 284 => 187 | 285 => 188 | 286 => 189 | 287 => 173 | 316 => 174 | 317 => 190 | 318 => 191 | 319 => 192 | 320 => 193 | 321 => 182 | 322 => 183 | 337 => 194 | 338 => 195 | n => n, fun | 0 => 0 | 2 => 2 | 3 => 3 | 4 => 4 | 5 => 5 | 9 => 9 | 20 => 20 | 21 => 21 | 37 => 66 | 46 => 61 | 51 => 163 | 53 => 34 | 75 => 82 | 76 => 83 | 80 => 76 | 85 => 190 | 127 => 126 | 143 => 217 | 145 => 219 | 167 => 189 | 168 => 192 | 171 => 221 | 173 => 223 | 175 => 207 | 210 => 210 | 212 => 226 | 213 => 227 | 232 => 229 | 233 => 230 | n => n, fun | 15 => 4 | 16 => 5 | 17 => 6 | 18 => 7 | 19 => 8 | n => n⟩
theorem Tryz.lays172 : Go.Proofs.Lays.n172 Tryz.prog Tryz.lays172_ren := {
 mixed := by kernel_rfl
 f129 := Tryz.func140.trans (congrArg some (by kernel_rfl))
 f171 := Tryz.func176.trans (congrArg some (by kernel_rfl))
 f172 := Tryz.func83.trans (congrArg some (by kernel_rfl))
 f205 := Tryz.func175.trans (congrArg some (by kernel_rfl))
 f243 := Tryz.func184.trans (congrArg some (by kernel_rfl))
 f244 := Tryz.func113.trans (congrArg some (by kernel_rfl))
 f245 := Tryz.func114.trans (congrArg some (by kernel_rfl))
 f246 := Tryz.func185.trans (congrArg some (by kernel_rfl))
 f247 := Tryz.func151.trans (congrArg some (by kernel_rfl))
 f279 := Tryz.func152.trans (congrArg some (by kernel_rfl))
 f280 := Tryz.func153.trans (congrArg some (by kernel_rfl))
 f281 := Tryz.func154.trans (congrArg some (by kernel_rfl))
 f282 := Tryz.func155.trans (congrArg some (by kernel_rfl))
 f283 := Tryz.func186.trans (congrArg some (by kernel_rfl))
 f284 := Tryz.func187.trans (congrArg some (by kernel_rfl))
 f285 := Tryz.func188.trans (congrArg some (by kernel_rfl))
 f286 := Tryz.func189.trans (congrArg some (by kernel_rfl))
 f287 := Tryz.func173.trans (congrArg some (by kernel_rfl))
 f316 := Tryz.func174.trans (congrArg some (by kernel_rfl))
 f317 := Tryz.func190.trans (congrArg some (by kernel_rfl))
 f318 := Tryz.func191.trans (congrArg some (by kernel_rfl))
 f319 := Tryz.func192.trans (congrArg some (by kernel_rfl))
 f320 := Tryz.func193.trans (congrArg some (by kernel_rfl))
 f321 := Tryz.func182.trans (congrArg some (by kernel_rfl))
 f322 := Tryz.func183.trans (congrArg some (by kernel_rfl))
 f337 := Tryz.func194.trans (congrArg some (by kernel_rfl))
 f338 := Tryz.func195.trans (congrArg some (by kernel_rfl))
 t0 := Tryz.underlying0
 a0 := Tryz.isAgg0
 z0 := Tryz.sizeOf0
 v0 := Tryz.zeroValue0
 t2 := Tryz.underlying2
 a2 := Tryz.isAgg2
 z2 := Tryz.sizeOf2
 v2 := Tryz.zeroValue2
 t3 := Tryz.underlying3
 a3 := Tryz.isAgg3
 z3 := Tryz.sizeOf3
 v3 := Tryz.zeroValue3
 t4 := Tryz.underlying4
 a4 := Tryz.isAgg4
 z4 := Tryz.sizeOf4
 v4 := Tryz.zeroValue4
 t5 := Tryz.underlying5
 a5 := Tryz.isAgg5
 z5 := Tryz.sizeOf5
 v5 := Tryz.zeroValue5
 t9 := Tryz.underlying9
 a9 := Tryz.isAgg9
 z9 := Tryz.sizeOf9
 v9 := Tryz.zeroValue9
 t20 := Tryz.underlying20
 a20 := Tryz.isAgg20
 z20 := Tryz.sizeOf20
 v20 := Tryz.zeroValue20
 t21 := Tryz.underlying21
 a21 := Tryz.isAgg21
 z21 := Tryz.sizeOf21
 v21 := Tryz.zeroValue21
 t37 := Tryz.underlying66
 a37 := Tryz.isAgg66
 z37 := Tryz.sizeOf66
 v37 := Tryz.zeroValue66
 t46 := Tryz.underlying61
 a46 := Tryz.isAgg61
 z46 := Tryz.sizeOf61
 v46 := Tryz.zeroValue61
 t51 := Tryz.underlying163
 a51 := Tryz.isAgg163
 z51 := Tryz.sizeOf163
 v51 := Tryz.zeroValue163
 t53 := Tryz.underlying34
 a53 := Tryz.isAgg34
 z53 := Tryz.sizeOf34
 v53 := Tryz.zeroValue34
 t75 := Tryz.underlying82
 a75 := Tryz.isAgg82
 z75 := Tryz.sizeOf82
 v75 := Tryz.zeroValue82
 t76 := Tryz.underlying83
 a76 := Tryz.isAgg83
 z76 := Tryz.sizeOf83
 v76 := Tryz.zeroValue83
 t85 := Tryz.underlying190
 a85 := Tryz.isAgg190
 z85 := Tryz.sizeOf190
 v85 := Tryz.zeroValue190
 t127 := Tryz.underlying126
 a127 := Tryz.isAgg126
 z127 := Tryz.sizeOf126
 v127 := Tryz.zeroValue126
 t143 := Tryz.underlying217
 a143 := Tryz.isAgg217
 z143 := Tryz.sizeOf217
 v143 := Tryz.zeroValue217
 t145 := Tryz.underlying219
 a145 := Tryz.isAgg219
 z145 := Tryz.sizeOf219
 v145 := Tryz.zeroValue219
 t167 := Tryz.underlying189
 a167 := Tryz.isAgg189
 z167 := Tryz.sizeOf189
 v167 := Tryz.zeroValue189
 t168 := Tryz.underlying192
 a168 := Tryz.isAgg192
 z168 := Tryz.sizeOf192
 v168 := Tryz.zeroValue192
 t171 := Tryz.underlying221
 a171 := Tryz.isAgg221
 z171 := Tryz.sizeOf221
 v171 := Tryz.zeroValue221
 t173 := Tryz.underlying223
 a173 := Tryz.isAgg223
 z173 := Tryz.sizeOf223
 v173 := Tryz.zeroValue223
 t175 := Tryz.underlying207
 a175 := Tryz.isAgg207
 z175 := Tryz.sizeOf207
 v175 := Tryz.zeroValue207
 t210 := Tryz.underlying210
 a210 := Tryz.isAgg210
 z210 := Tryz.sizeOf210
 v210 := Tryz.zeroValue210
 t212 := Tryz.underlying226
 a212 := Tryz.isAgg226
 z212 := Tryz.sizeOf226
 v212 := Tryz.zeroValue226
 t213 := Tryz.underlying227
 a213 := Tryz.isAgg227
 z213 := Tryz.sizeOf227
 t232 := Tryz.underlying229
 a232 := Tryz.isAgg229
 z232 := Tryz.sizeOf229
 v232 := Tryz.zeroValue229
 t233 := Tryz.underlying230
 a233 := Tryz.isAgg230
 z233 := Tryz.sizeOf230
 v233 := Tryz.zeroValue230
 g15 := by kernel_rfl
 g16 := by kernel_rfl
 g17 := by kernel_rfl
 g18 := by kernel_rfl
 g19 := by kernel_rfl }
open Go.RowKit in
theorem Tryz.strconv_Atoi (s : ByteArray) (n : Int) (hl : s.size ≤ 18) (h : Lib.atoi s.data.toList = some n) (w : World) :
  Calls Tryz.prog 83 #[.string s] w fun e w' => e = .returned (.tuple #[.int .i64 n, .nilIface]) ∧ ∃ t, w' = Lib.bytesWorld w 5 t := Any.strconv_Atoi Tryz.lays172 s n hl h w
def Tryz.lays197_ren : Go.Shelf.Ren := ⟨fun | 197 => 64 | 260 => 101 | n => n, fun | 0 => 0 | 3 => 3 | 4 => 4 | 5 => 5 | 9 => 9 | 21 => 21 | 46 => 61 | 105 => 116 | 119 => 161 | 138 => 182 | 139 => 183 | n => n, fun | 3 => 1 | 4 => 2 | n => n⟩
theorem Tryz.lays197 : Go.Proofs.Lays.n197 Tryz.prog Tryz.lays197_ren := {
 mixed := by kernel_rfl
 f197 := Tryz.func64.trans (congrArg some (by kernel_rfl))
 f260 := Tryz.func101.trans (congrArg some (by kernel_rfl))
 t0 := Tryz.underlying0
 a0 := Tryz.isAgg0
 z0 := Tryz.sizeOf0
 v0 := Tryz.zeroValue0
 t3 := Tryz.underlying3
 a3 := Tryz.isAgg3
 z3 := Tryz.sizeOf3
 v3 := Tryz.zeroValue3
 t4 := Tryz.underlying4
 a4 := Tryz.isAgg4
 z4 := Tryz.sizeOf4
 v4 := Tryz.zeroValue4
 t5 := Tryz.underlying5
 a5 := Tryz.isAgg5
 z5 := Tryz.sizeOf5
 v5 := Tryz.zeroValue5
 t9 := Tryz.underlying9
 a9 := Tryz.isAgg9
 z9 := Tryz.sizeOf9
 v9 := Tryz.zeroValue9
 t21 := Tryz.underlying21
 a21 := Tryz.isAgg21
 z21 := Tryz.sizeOf21
 v21 := Tryz.zeroValue21
 t46 := Tryz.underlying61
 a46 := Tryz.isAgg61
 z46 := Tryz.sizeOf61
 v46 := Tryz.zeroValue61
 t105 := Tryz.underlying116
 a105 := Tryz.isAgg116
 z105 := Tryz.sizeOf116
 v105 := Tryz.zeroValue116
 t119 := Tryz.underlying161
 a119 := Tryz.isAgg161
 z119 := Tryz.sizeOf161
 t138 := Tryz.underlying182
 a138 := Tryz.isAgg182
 z138 := Tryz.sizeOf182
 v138 := Tryz.zeroValue182
 t139 := Tryz.underlying183
 a139 := Tryz.isAgg183
 z139 := Tryz.sizeOf183
 v139 := Tryz.zeroValue183
 g3 := by kernel_rfl
 g4 := by kernel_rfl }
open Go.RowKit Go.Lib in
theorem Tryz.utf8_DecodeRuneInString (s : ByteArray) (w : World) (hT : Lib.Utf8Tabs 1 2 w) :
  Calls Tryz.prog 64 #[.string s] w fun e w' => e = .returned (.tuple #[.int .i32 (Lib.decodeGo s).1, .int .i64 (Lib.decodeGo s).2]) ∧ Below w.heap.size w w' := Any.utf8_DecodeRuneInString Tryz.lays197 s w hT
def Tryz.lays119_ren : Go.Shelf.Ren := ⟨fun | 119 => 63 | n => n, fun | 4 => 4 | 21 => 21 | n => n, fun | n => n⟩
theorem Tryz.lays119 : Go.Proofs.Lays.n119 Tryz.prog Tryz.lays119_ren := {
 mixed := by kernel_rfl
 f119 := Tryz.func63.trans (congrArg some (by kernel_rfl))
 t4 := Tryz.underlying4
 a4 := Tryz.isAgg4
 z4 := Tryz.sizeOf4
 v4 := Tryz.zeroValue4
 t21 := Tryz.underlying21
 a21 := Tryz.isAgg21
 z21 := Tryz.sizeOf21
 v21 := Tryz.zeroValue21 }
theorem Tryz.utf8_ValidRune (r : Int) (w : World) :
  Calls Tryz.prog 63 #[.int .i32 r] w fun e w' => e = .returned (.bool (Lib.validRune r)) ∧ w' = w := Any.utf8_ValidRune Tryz.lays119 r w
def Tryz.lays260_ren : Go.Shelf.Ren := ⟨fun | 260 => 101 | n => n, fun | 0 => 0 | 3 => 3 | 4 => 4 | 5 => 5 | 9 => 9 | 21 => 21 | 46 => 61 | 119 => 161 | 138 => 182 | 139 => 183 | n => n, fun | 3 => 1 | 4 => 2 | n => n⟩
theorem Tryz.lays260 : Go.Proofs.Lays.n260 Tryz.prog Tryz.lays260_ren := {
 mixed := by kernel_rfl
 f260 := Tryz.func101.trans (congrArg some (by kernel_rfl))
 t0 := Tryz.underlying0
 a0 := Tryz.isAgg0
 z0 := Tryz.sizeOf0
 v0 := Tryz.zeroValue0
 t3 := Tryz.underlying3
 a3 := Tryz.isAgg3
 z3 := Tryz.sizeOf3
 v3 := Tryz.zeroValue3
 t4 := Tryz.underlying4
 a4 := Tryz.isAgg4
 z4 := Tryz.sizeOf4
 v4 := Tryz.zeroValue4
 t5 := Tryz.underlying5
 a5 := Tryz.isAgg5
 z5 := Tryz.sizeOf5
 v5 := Tryz.zeroValue5
 t9 := Tryz.underlying9
 a9 := Tryz.isAgg9
 z9 := Tryz.sizeOf9
 v9 := Tryz.zeroValue9
 t21 := Tryz.underlying21
 a21 := Tryz.isAgg21
 z21 := Tryz.sizeOf21
 v21 := Tryz.zeroValue21
 t46 := Tryz.underlying61
 a46 := Tryz.isAgg61
 z46 := Tryz.sizeOf61
 v46 := Tryz.zeroValue61
 t119 := Tryz.underlying161
 a119 := Tryz.isAgg161
 z119 := Tryz.sizeOf161
 t138 := Tryz.underlying182
 a138 := Tryz.isAgg182
 z138 := Tryz.sizeOf182
 v138 := Tryz.zeroValue182
 t139 := Tryz.underlying183
 a139 := Tryz.isAgg183
 z139 := Tryz.sizeOf183
 v139 := Tryz.zeroValue183
 g3 := by kernel_rfl
 g4 := by kernel_rfl }
def Tryz.lays167_ren : Go.Shelf.Ren := ⟨fun | 167 => 122 | 240 => 78 | 276 => 108 | n => n, fun | 0 => 0 | 4 => 4 | 5 => 5 | 9 => 9 | 20 => 20 | 37 => 66 | 70 => 65 | 72 => 68 | 75 => 82 | 80 => 76 | 164 => 149 | n => n, fun | n => n⟩
theorem Tryz.lays167 : Go.Proofs.Lays.n167 Tryz.prog Tryz.lays167_ren := {
 mixed := by kernel_rfl
 f167 := Tryz.func122.trans (congrArg some (by kernel_rfl))
 f240 := Tryz.func78.trans (congrArg some (by kernel_rfl))
 f276 := Tryz.func108.trans (congrArg some (by kernel_rfl))
 t0 := Tryz.underlying0
 a0 := Tryz.isAgg0
 z0 := Tryz.sizeOf0
 v0 := Tryz.zeroValue0
 t4 := Tryz.underlying4
 a4 := Tryz.isAgg4
 z4 := Tryz.sizeOf4
 v4 := Tryz.zeroValue4
 t5 := Tryz.underlying5
 a5 := Tryz.isAgg5
 z5 := Tryz.sizeOf5
 v5 := Tryz.zeroValue5
 t9 := Tryz.underlying9
 a9 := Tryz.isAgg9
 z9 := Tryz.sizeOf9
 v9 := Tryz.zeroValue9
 t20 := Tryz.underlying20
 a20 := Tryz.isAgg20
 z20 := Tryz.sizeOf20
 v20 := Tryz.zeroValue20
 t37 := Tryz.underlying66
 a37 := Tryz.isAgg66
 z37 := Tryz.sizeOf66
 v37 := Tryz.zeroValue66
 t70 := Tryz.underlying65
 a70 := Tryz.isAgg65
 z70 := Tryz.sizeOf65
 v70 := Tryz.zeroValue65
 t72 := Tryz.underlying68
 a72 := Tryz.isAgg68
 z72 := Tryz.sizeOf68
 v72 := Tryz.zeroValue68
 t75 := Tryz.underlying82
 a75 := Tryz.isAgg82
 z75 := Tryz.sizeOf82
 v75 := Tryz.zeroValue82
 t164 := Tryz.underlying149
 a164 := Tryz.isAgg149
 z164 := Tryz.sizeOf149
 v164 := Tryz.zeroValue149 }
theorem Tryz.Builder_Extra_167 : Builder.Extra Tryz.prog Tryz.lays167_ren where
 sizeBuilder := by kernel_rfl
 liesBuilder := by kernel_rfl
 t5 := Tryz.underlying5
 a5 := Tryz.isAgg5
 z5 := Tryz.sizeOf5
 v5 := Tryz.zeroValue5
 infoByte := by kernel_rfl
 cellsByte := by kernel_rfl
 sizeByte := by kernel_rfl
 neB5 := by decide
open Go.RowKit in
theorem Tryz.Builder_WriteByte_k (B b : Nat) (bs : List Value) (c : Int) (w : World) (h : Lib.IsBuilderF 68 5 B b bs w) (hlen : bs.length + 1 ≤ 140737488355328) (hBw : B ≤ w.heap.size) :
  Calls Tryz.prog 122 #[.pointer (some ⟨b, 0, none⟩), .int .u8 c] w fun e w' => e = .returned .nilIface ∧ (Lib.BuilderAtF 68 5 B b (.pointer (some ⟨b, 0, none⟩)) (bs ++ [.int .u8 c]) w' ∧ Below B w w' ∧ Lib.OthersKept 5 (some b) w w') := Any.Builder_WriteByte_k Tryz.lays167 Tryz.Builder_Extra_167 B b bs c w h hlen hBw
def Tryz.lays166_ren : Go.Shelf.Ren := ⟨fun | 166 => 41 | 240 => 78 | 276 => 108 | n => n, fun | 0 => 0 | 3 => 3 | 4 => 4 | 5 => 5 | 9 => 9 | 20 => 20 | 37 => 66 | 70 => 65 | 72 => 68 | 75 => 82 | 80 => 76 | 164 => 149 | n => n, fun | n => n⟩
theorem Tryz.lays166 : Go.Proofs.Lays.n166 Tryz.prog Tryz.lays166_ren := {
 mixed := by kernel_rfl
 f166 := Tryz.func41.trans (congrArg some (by kernel_rfl))
 f240 := Tryz.func78.trans (congrArg some (by kernel_rfl))
 f276 := Tryz.func108.trans (congrArg some (by kernel_rfl))
 t0 := Tryz.underlying0
 a0 := Tryz.isAgg0
 z0 := Tryz.sizeOf0
 v0 := Tryz.zeroValue0
 t3 := Tryz.underlying3
 a3 := Tryz.isAgg3
 z3 := Tryz.sizeOf3
 v3 := Tryz.zeroValue3
 t4 := Tryz.underlying4
 a4 := Tryz.isAgg4
 z4 := Tryz.sizeOf4
 v4 := Tryz.zeroValue4
 t9 := Tryz.underlying9
 a9 := Tryz.isAgg9
 z9 := Tryz.sizeOf9
 v9 := Tryz.zeroValue9
 t20 := Tryz.underlying20
 a20 := Tryz.isAgg20
 z20 := Tryz.sizeOf20
 v20 := Tryz.zeroValue20
 t37 := Tryz.underlying66
 a37 := Tryz.isAgg66
 z37 := Tryz.sizeOf66
 v37 := Tryz.zeroValue66
 t70 := Tryz.underlying65
 a70 := Tryz.isAgg65
 z70 := Tryz.sizeOf65
 v70 := Tryz.zeroValue65
 t72 := Tryz.underlying68
 a72 := Tryz.isAgg68
 z72 := Tryz.sizeOf68
 v72 := Tryz.zeroValue68
 t75 := Tryz.underlying82
 a75 := Tryz.isAgg82
 z75 := Tryz.sizeOf82
 v75 := Tryz.zeroValue82
 t164 := Tryz.underlying149
 a164 := Tryz.isAgg149
 z164 := Tryz.sizeOf149
 v164 := Tryz.zeroValue149 }
theorem Tryz.Builder_Extra_166 : Builder.Extra Tryz.prog Tryz.lays166_ren where
 sizeBuilder := by kernel_rfl
 liesBuilder := by kernel_rfl
 t5 := Tryz.underlying5
 a5 := Tryz.isAgg5
 z5 := Tryz.sizeOf5
 v5 := Tryz.zeroValue5
 infoByte := by kernel_rfl
 cellsByte := by kernel_rfl
 sizeByte := by kernel_rfl
 neB5 := by decide
open Go.RowKit in
theorem Tryz.Builder_WriteString_k (B b : Nat) (bs : List Value) (s : ByteArray) (w : World) (h : Lib.IsBuilderF 68 5 B b bs w) (hlen : bs.length + s.size ≤ 140737488355328) (hBw : B ≤ w.heap.size) :
  Calls Tryz.prog 41 #[.pointer (some ⟨b, 0, none⟩), .string s] w fun e w' => e = .returned (.tuple #[.int .i64 s.size, .nilIface]) ∧ (Lib.BuilderAtF 68 5 B b (.pointer (some ⟨b, 0, none⟩)) (bs ++ Lib.strCells s) w' ∧ Below B w w' ∧ Lib.OthersKept 5 (some b) w w') := Any.Builder_WriteString_k Tryz.lays166 Tryz.Builder_Extra_166 B b bs s w h hlen hBw
def Tryz.lays169_ren : Go.Shelf.Ren := ⟨fun | 169 => 36 | n => n, fun | 0 => 0 | 3 => 3 | 5 => 5 | 9 => 9 | 37 => 66 | 70 => 65 | 72 => 68 | 127 => 126 | n => n, fun | n => n⟩
theorem Tryz.lays169 : Go.Proofs.Lays.n169 Tryz.prog Tryz.lays169_ren := {
 mixed := by kernel_rfl
 f169 := Tryz.func36.trans (congrArg some (by kernel_rfl))
 t0 := Tryz.underlying0
 a0 := Tryz.isAgg0
 z0 := Tryz.sizeOf0
 v0 := Tryz.zeroValue0
 t3 := Tryz.underlying3
 a3 := Tryz.isAgg3
 z3 := Tryz.sizeOf3
 v3 := Tryz.zeroValue3
 t9 := Tryz.underlying9
 a9 := Tryz.isAgg9
 z9 := Tryz.sizeOf9
 v9 := Tryz.zeroValue9
 t37 := Tryz.underlying66
 a37 := Tryz.isAgg66
 z37 := Tryz.sizeOf66
 v37 := Tryz.zeroValue66
 t70 := Tryz.underlying65
 a70 := Tryz.isAgg65
 z70 := Tryz.sizeOf65
 v70 := Tryz.zeroValue65
 t72 := Tryz.underlying68
 a72 := Tryz.isAgg68
 z72 := Tryz.sizeOf68
 v72 := Tryz.zeroValue68
 t127 := Tryz.underlying126
 a127 := Tryz.isAgg126
 z127 := Tryz.sizeOf126
 v127 := Tryz.zeroValue126 }
theorem Tryz.Builder_Extra_169 : Builder.Extra Tryz.prog Tryz.lays169_ren where
 sizeBuilder := by kernel_rfl
 liesBuilder := by kernel_rfl
 t5 := Tryz.underlying5
 a5 := Tryz.isAgg5
 z5 := Tryz.sizeOf5
 v5 := Tryz.zeroValue5
 infoByte := by kernel_rfl
 cellsByte := by kernel_rfl
 sizeByte := by kernel_rfl
 neB5 := by decide
open Go.RowKit in
theorem Tryz.Builder_String_any_k (B b : Nat) (l : List UInt8) (w : World) (h : Lib.IsBuilderF 68 5 B b (Lib.byteCells l) w) (hBw : B ≤ w.heap.size) :
  Calls Tryz.prog 36 #[.pointer (some ⟨b, 0, none⟩)] w fun e w' => e = .returned (.string ⟨l.toArray⟩) ∧ (Lib.IsBuilderF 68 5 B b (Lib.byteCells l) w' ∧ Below B w w' ∧ Lib.OthersKept 5 (some b) w w') := Any.Builder_String_any_k Tryz.lays169 Tryz.Builder_Extra_169 B b l w h hBw
def Tryz.lays242_ren : Go.Shelf.Ren := ⟨fun | 242 => 129 | 278 => 161 | n => n, fun | 4 => 4 | 5 => 5 | 21 => 21 | 37 => 66 | 46 => 61 | 51 => 163 | n => n, fun | n => n⟩
theorem Tryz.lays242 : Go.Proofs.Lays.n242 Tryz.prog Tryz.lays242_ren := {
 mixed := by kernel_rfl
 f242 := Tryz.func129.trans (congrArg some (by kernel_rfl))
 f278 := Tryz.func161.trans (congrArg some (by kernel_rfl))
 t4 := Tryz.underlying4
 a4 := Tryz.isAgg4
 z4 := Tryz.sizeOf4
 v4 := Tryz.zeroValue4
 t5 := Tryz.underlying5
 a5 := Tryz.isAgg5
 z5 := Tryz.sizeOf5
 v5 := Tryz.zeroValue5
 t21 := Tryz.underlying21
 a21 := Tryz.isAgg21
 z21 := Tryz.sizeOf21
 v21 := Tryz.zeroValue21
 t37 := Tryz.underlying66
 a37 := Tryz.isAgg66
 z37 := Tryz.sizeOf66
 v37 := Tryz.zeroValue66
 t46 := Tryz.underlying61
 a46 := Tryz.isAgg61
 z46 := Tryz.sizeOf61
 v46 := Tryz.zeroValue61
 t51 := Tryz.underlying163
 a51 := Tryz.isAgg163
 z51 := Tryz.sizeOf163
 v51 := Tryz.zeroValue163 }
open Go.RowKit in
theorem Tryz.utf8_AppendRune_row (B : Nat) (v : Value) (n : Nat) (xs : List Value) (r : Int) (hr0 : -2147483648 ≤ r) (hr1 : r ≤ 2147483647) (w : World) (hown : w.ownsRowF B 5 1 v n xs) (hlen : n + 4 ≤ 140737488355328) (hBw : B ≤ w.heap.size) :
  Calls Tryz.prog 129 #[v, .int .i32 r] w fun e w' => ∃ v', e = .returned v' ∧ w'.ownsRowF B 5 1 v' (n + (Lib.runeCells r).length) (xs ++ Lib.runeCells r) ∧ ∃ o, (w.alloc o).grownBy w' v.ownBlock := Any.utf8_AppendRune_row Tryz.lays242 (by kernel_rfl) B v n xs r hr0 hr1 w hown hlen hBw
def Tryz.lays125_ren : Go.Shelf.Ren := ⟨fun | 125 => 100 | 128 => 139 | 129 => 140 | n => n, fun | 46 => 61 | 3 => 3 | 51 => 163 | 53 => 34 | 4 => 4 | 5 => 5 | 9 => 9 | n => n, fun | n => n⟩
theorem Tryz.lays125 : Go.Proofs.Lays.n125 Tryz.prog Tryz.lays125_ren := {
 mixed := by kernel_rfl
 f125 := Tryz.func100.trans (congrArg some (by kernel_rfl))
 f128 := Tryz.func139.trans (congrArg some (by kernel_rfl))
 f129 := Tryz.func140.trans (congrArg some (by kernel_rfl))
 t3 := Tryz.underlying3
 a3 := Tryz.isAgg3
 z3 := Tryz.sizeOf3
 v3 := Tryz.zeroValue3
 t4 := Tryz.underlying4
 a4 := Tryz.isAgg4
 z4 := Tryz.sizeOf4
 v4 := Tryz.zeroValue4
 t5 := Tryz.underlying5
 a5 := Tryz.isAgg5
 z5 := Tryz.sizeOf5
 v5 := Tryz.zeroValue5
 t9 := Tryz.underlying9
 a9 := Tryz.isAgg9
 z9 := Tryz.sizeOf9
 v9 := Tryz.zeroValue9
 t46 := Tryz.underlying61
 a46 := Tryz.isAgg61
 z46 := Tryz.sizeOf61
 v46 := Tryz.zeroValue61
 t51 := Tryz.underlying163
 a51 := Tryz.isAgg163
 z51 := Tryz.sizeOf163
 v51 := Tryz.zeroValue163
 t53 := Tryz.underlying34
 a53 := Tryz.isAgg34
 z53 := Tryz.sizeOf34
 v53 := Tryz.zeroValue34 }
theorem Tryz.bits_Len (x : Int) (w : World) (h0 : 0 ≤ x) (h1 : x ≤ 18446744073709551615) :
  Calls Tryz.prog 100 #[.int .u64 x] w fun e w' => e = .returned (.int .i64 (Lib.bitLen x.toNat)) ∧ w' = w := Any.bits_Len Tryz.lays125 x w h0 h1
def Tryz.lays229_ren : Go.Shelf.Ren := ⟨fun | 229 => 45 | n => n, fun | 9 => 9 | 40 => 92 | 31 => 24 | 152 => 132 | 3 => 3 | 0 => 0 | 4 => 4 | 21 => 21 | 154 => 134 | n => n, fun | n => n⟩
theorem Tryz.lays229 : Go.Proofs.Lays.n229 Tryz.prog Tryz.lays229_ren := {
 mixed := by kernel_rfl
 f229 := Tryz.func45.trans (congrArg some (by kernel_rfl))
 t0 := Tryz.underlying0
 a0 := Tryz.isAgg0
 z0 := Tryz.sizeOf0
 v0 := Tryz.zeroValue0
 t3 := Tryz.underlying3
 a3 := Tryz.isAgg3
 z3 := Tryz.sizeOf3
 v3 := Tryz.zeroValue3
 t4 := Tryz.underlying4
 a4 := Tryz.isAgg4
 z4 := Tryz.sizeOf4
 v4 := Tryz.zeroValue4
 t9 := Tryz.underlying9
 a9 := Tryz.isAgg9
 z9 := Tryz.sizeOf9
 v9 := Tryz.zeroValue9
 t21 := Tryz.underlying21
 a21 := Tryz.isAgg21
 z21 := Tryz.sizeOf21
 v21 := Tryz.zeroValue21
 t31 := Tryz.underlying24
 a31 := Tryz.isAgg24
 z31 := Tryz.sizeOf24
 v31 := Tryz.zeroValue24
 t40 := Tryz.underlying92
 a40 := Tryz.isAgg92
 z40 := Tryz.sizeOf92
 v40 := Tryz.zeroValue92
 t152 := Tryz.underlying132
 a152 := Tryz.isAgg132
 z152 := Tryz.sizeOf132
 v152 := Tryz.zeroValue132
 t154 := Tryz.underlying134
 a154 := Tryz.isAgg134
 z154 := Tryz.sizeOf134
 v154 := Tryz.zeroValue134 }
open Go.RowKit Go.Lib in
theorem Tryz.strings_FieldsFunc (g : Nat) (lb : Array Value) (eg : ∀ args w, (callFunc g args).run Tryz.prog w = .ok (.enter g args) w) (p : Nat → Bool) (s : ByteArray) (w : World) (hs : s.size ≤ 4294967296) (hp : PredAt Tryz.prog g lb encR p w) :
  Calls Tryz.prog 45 #[.string s, .func (.func g) #[] lb] w fun e w' => ∃ A, e = .returned (.slice (some ⟨A, 0, none⟩) (Lib.goFieldsP p s).length (Lib.goFieldsP p s).length) ∧ w.heap.size ≤ A ∧
   w'.ownsRow w.heap.size 9 1 (.slice (some ⟨A, 0, none⟩) (Lib.goFieldsP p s).length (Lib.goFieldsP p s).length) (Lib.goFieldsP p s).length ((Lib.goFieldsP p s).map Value.string) ∧ Below w.heap.size w w' := Any.strings_FieldsFunc Tryz.lays229 g lb eg p s w hs hp (by kernel_rfl) (by kernel_rfl)
def Tryz.laysSlE43_f62_ren : Go.Shelf.Ren := ⟨fun | 43 => 62 | n => n, fun | 22 => 30 | 23 => 34 | 3 => 3 | 4 => 4 | 0 => 0 | n => n, fun | n => n⟩
theorem Tryz.laysSlE43_f62 : Go.Proofs.SlLaysE.n43 Tryz.prog Tryz.laysSlE43_f62_ren := {
 mixed := by kernel_rfl
 f43 := ⟨Tryz.f62.name, by decide, Tryz.func62.trans (congrArg some (by kernel_rfl))⟩
 t0 := Tryz.underlying0
 a0 := Tryz.isAgg0
 z0 := Tryz.sizeOf0
 v0 := Tryz.zeroValue0
 t3 := Tryz.underlying3
 a3 := Tryz.isAgg3
 z3 := Tryz.sizeOf3
 v3 := Tryz.zeroValue3
 t4 := Tryz.underlying4
 a4 := Tryz.isAgg4
 z4 := Tryz.sizeOf4
 v4 := Tryz.zeroValue4
 t22 := Tryz.underlying30
 a22 := Tryz.isAgg30
 z22 := Tryz.sizeOf30
 v22 := Tryz.zeroValue30
 a23 := Tryz.isAgg34
 z23 := Tryz.sizeOf34 }
open Go.RowKit Go.Lib Go.Sort in
theorem Tryz.slices_Compact {α : Type} [Inhabited α] [DecidableEq α] (enc : α → Value) (hO : OneCell enc) (heq : EqlAt Tryz.prog 34 enc (fun x y => decide (x = y))) (hne : NeqAt Tryz.prog 34 enc (fun x y => decide (x = y))) (zr : α) (v23 : ∀ w, (zeroValue 34).run Tryz.prog w = .ok (enc zr) w) (blk off cap : Nat) (d : Array α) (w : World) (hH : Holds enc w blk off d) (hsz : d.size ≤ 9223372036854775807) (hcap : d.size ≤ cap) :
  Calls Tryz.prog 62 #[.slice (some ⟨blk, off, none⟩) d.size cap] w fun e w' => e = .returned (.slice (some ⟨blk, off, none⟩) (compactUpTo d d.size).length cap) ∧ ∃ q, w' = putRow enc (Sort.ahead w q) blk off (compactUpTo d d.size ++ List.replicate (d.size - (compactUpTo d d.size).length) zr).toArray := AnyE.slices_Compact Tryz.laysSlE43_f62 enc hO heq hne zr v23 blk off cap d w hH hsz hcap
def Tryz.lays103_ren : Go.Shelf.Ren := ⟨fun | 103 => 109 | 206 => 89 | 210 => 147 | n => n, fun | 3 => 3 | 4 => 4 | 9 => 9 | 24 => 151 | n => n, fun | n => n⟩
theorem Tryz.lays103 : Go.Proofs.Lays.n103 Tryz.prog Tryz.lays103_ren := {
 mixed := by kernel_rfl
 f103 := Tryz.func109.trans (congrArg some (by kernel_rfl))
 f206 := Tryz.func89.trans (congrArg some (by kernel_rfl))
 f210 := Tryz.func147.trans (congrArg some (by kernel_rfl))
 t3 := Tryz.underlying3
 a3 := Tryz.isAgg3
 z3 := Tryz.sizeOf3
 v3 := Tryz.zeroValue3
 t4 := Tryz.underlying4
 a4 := Tryz.isAgg4
 z4 := Tryz.sizeOf4
 v4 := Tryz.zeroValue4
 t9 := Tryz.underlying9
 a9 := Tryz.isAgg9
 z9 := Tryz.sizeOf9
 v9 := Tryz.zeroValue9
 t24 := Tryz.underlying151
 a24 := Tryz.isAgg151
 z24 := Tryz.sizeOf151
 v24 := Tryz.zeroValue151 }
open Go.RowKit in
theorem Tryz.strings_CutPrefix (s p : ByteArray) (w : World) :
  Calls Tryz.prog 109 #[.string s, .string p] w fun e w' => e = .returned (.tuple #[.string ⟨(Lib.trimPrefix s.data.toList p.data.toList).toArray⟩, .bool (Lib.hasPrefix s.data.toList p.data.toList)]) ∧ w' = w := Any.strings_CutPrefix Tryz.lays103 s p w
def Tryz.lays104_ren : Go.Shelf.Ren := ⟨fun | 104 => 159 | 207 => 146 | 211 => 177 | n => n, fun | 3 => 3 | 4 => 4 | 9 => 9 | 24 => 151 | n => n, fun | n => n⟩
theorem Tryz.lays104 : Go.Proofs.Lays.n104 Tryz.prog Tryz.lays104_ren := {
 mixed := by kernel_rfl
 f104 := Tryz.func159.trans (congrArg some (by kernel_rfl))
 f207 := Tryz.func146.trans (congrArg some (by kernel_rfl))
 f211 := Tryz.func177.trans (congrArg some (by kernel_rfl))
 t3 := Tryz.underlying3
 a3 := Tryz.isAgg3
 z3 := Tryz.sizeOf3
 v3 := Tryz.zeroValue3
 t4 := Tryz.underlying4
 a4 := Tryz.isAgg4
 z4 := Tryz.sizeOf4
 v4 := Tryz.zeroValue4
 t9 := Tryz.underlying9
 a9 := Tryz.isAgg9
 z9 := Tryz.sizeOf9
 v9 := Tryz.zeroValue9
 t24 := Tryz.underlying151
 a24 := Tryz.isAgg151
 z24 := Tryz.sizeOf151
 v24 := Tryz.zeroValue151 }
open Go.RowKit in
theorem Tryz.strings_CutSuffix (s p : ByteArray) (w : World) (hs : s.size ≤ 9223372036854775807) :
  Calls Tryz.prog 159 #[.string s, .string p] w fun e w' => e = .returned (.tuple #[.string ⟨(Lib.trimSuffix s.data.toList p.data.toList).toArray⟩, .bool (Lib.hasSuffix s.data.toList p.data.toList)]) ∧ w' = w := Any.strings_CutSuffix Tryz.lays104 s p w hs
def Tryz.lays170_ren : Go.Shelf.Ren := ⟨fun | 170 => 181 | n => n, fun | 70 => 65 | 3 => 3 | 0 => 0 | 72 => 68 | 37 => 66 | 5 => 5 | n => n, fun | n => n⟩
theorem Tryz.lays170 : Go.Proofs.Lays.n170 Tryz.prog Tryz.lays170_ren := {
 mixed := by kernel_rfl
 f170 := Tryz.func181.trans (congrArg some (by kernel_rfl))
 t0 := Tryz.underlying0
 a0 := Tryz.isAgg0
 z0 := Tryz.sizeOf0
 v0 := Tryz.zeroValue0
 t3 := Tryz.underlying3
 a3 := Tryz.isAgg3
 z3 := Tryz.sizeOf3
 v3 := Tryz.zeroValue3
 t37 := Tryz.underlying66
 a37 := Tryz.isAgg66
 z37 := Tryz.sizeOf66
 v37 := Tryz.zeroValue66
 t70 := Tryz.underlying65
 a70 := Tryz.isAgg65
 z70 := Tryz.sizeOf65
 v70 := Tryz.zeroValue65
 t72 := Tryz.underlying68
 a72 := Tryz.isAgg68
 z72 := Tryz.sizeOf68
 v72 := Tryz.zeroValue68 }
open Go.RowKit in
theorem Tryz.Builder_Len_f (B b : Nat) (bs : List Value) (w : World) (h : Lib.IsBuilderF 68 5 B b bs w) :
  Calls Tryz.prog 181 #[.pointer (some ⟨b, 0, none⟩)] w fun e w' => e = .returned (.int .i64 bs.length) ∧ w' = w := Any.Builder_Len_f Tryz.lays170 B b bs w h
end Go.Proofs
namespace Go.Proofs.YtigcbajcifhinaaGreatDoorW.PrintWords
open Go.RowKit
def winTab : List Int := [8364, 65533, 8218, 402, 8222, 8230, 8224, 8225, 710, 8240, 352, 8249, 338, 65533, 381, 65533, 65533, 8216, 8217, 8220, 8221, 8226, 8211, 8212, 732, 8482, 353, 8250, 339, 65533, 382, 376]
def Tabs (w : World) : Prop := Lib.Utf8Tabs 1 2 w ∧ (∃ m, w.cell? ⟨3, 0, none⟩ = some (.int .i64 m)) ∧ ∀ i, i < 32 → w.cell? ⟨0, i, none⟩ = some (.int .i32 (winTab.getD i 0))
theorem tabs_below {w w1 : World} (hT : Tabs w) (hB : Below w.heap.size w w1) : Tabs w1 :=
 have k : ∀ {a : Addr} {v : Value}, w.cell? a = some v → w1.cell? a = some v := fun h => (hB.cell (World.block_lt_of_cell? w _ h)).trans h
 ⟨⟨fun c hc => k (hT.1.1 c hc), fun i hi => ⟨k (hT.1.2 i hi).1, k (hT.1.2 i hi).2⟩⟩, hT.2.1.imp fun _ h => k h, fun i hi => k (hT.2.2 i hi)⟩
theorem tabs_alloc {w : World} (hT : Tabs w) (o : Obj) : Tabs (w.alloc o) := tabs_below hT ((Below.refl _ _).alloc (Nat.le_refl _) _)
section
variable {α : Type} {d : Kd α} {e base : Nat} {ok : Nat → Prop} {v : Value} {xs : List α} {w w0 w1 w2 w3 : World} {g n c : Nat} {o : Obj} {A : Option Addr}
theorem RX (h : Aside0 (d.R e w base ok v xs)) (k : d.R e w base ok v xs → d.R e w1 base ok v xs := by (intro h; (with_reducible repeat (first | apply Kd.R_alloc | apply Kd.R_drewN | apply Kd.R_drew)); exact h)) : d.R e w1 base ok v xs := k h.out
theorem RB (h : Aside0 (d.R e w base ok v xs)) (hb : Below w1.heap.size w1 w2) (k : d.R e w base ok v xs → d.R e w1 base ok v xs := by (intro h; (with_reducible repeat (first | apply Kd.R_alloc | apply Kd.R_drewN | apply Kd.R_drew)); exact h)) : Aside0 (d.R e w2 base ok v xs) := ⟨Kd.R_below (k h.out) hb⟩
theorem BX (h : Aside0 (w.heap[g]? = some o)) (k : w.heap[g]? = some o → w1.heap[g]? = some o := by (intro h; (with_reducible repeat (first | refine blk_drewN ?_ _ | refine blk_drew ?_ | refine blk_alloc ?_ _)); exact h)) : w1.heap[g]? = some o := k h.out
theorem BB (h : Aside0 (w.heap[g]? = some o)) (hb : Below w1.heap.size w1 w2) (k : w.heap[g]? = some o → w1.heap[g]? = some o := by (intro h; (with_reducible repeat (first | refine blk_drewN ?_ _ | refine blk_drew ?_ | refine blk_alloc ?_ _)); exact h)) : Aside0 (w2.heap[g]? = some o) := ⟨blk_below (k h.out) hb⟩
theorem LX (h : Aside0 (Below w.heap.size w w1)) (k : Below w.heap.size w w1 → Below w.heap.size w w2 := by (intro h; repeat (first | (with_reducible first | exact h | apply below_alloc | apply pw_below_drewN | apply below_drew1 | refine below_set ?_ (Aside0.out (by with_reducible assumption))) | exact h))) : Below w.heap.size w w2 := k h.out
theorem LB (h : Aside0 (Below w.heap.size w w1)) (hb : Below w2.heap.size w2 w3) (k : Below w.heap.size w w1 → Below w.heap.size w w2 := by (intro h; repeat (first | (with_reducible first | exact h | apply below_alloc | apply pw_below_drewN | apply below_drew1 | refine below_set ?_ (Aside0.out (by with_reducible assumption))) | exact h))) : Aside0 (Below w.heap.size w w3) := ⟨below_step (k h.out) hb⟩
theorem CX (h : Aside0 (d.R e w base ok (.slice A n c) xs)) (k : d.C w A xs.length xs → d.C w1 A xs.length xs := by (intro h; repeat (first | exact h | (with_reducible refine Kd.C_alloc ?_ _) | (with_reducible refine Kd.C_drewN ?_ _) | (with_reducible refine Kd.C_drew ?_)))) : d.C w1 A xs.length xs := k (Kd.R_reads' h.out).2.2
theorem CB (h : Aside0 (d.C w A n xs)) (hb : Aside0 (Below w.heap.size w w1)) (k : d.C w1 A n xs → d.C w2 A n xs := by (intro h; repeat (first | exact h | (with_reducible refine Kd.C_alloc ?_ _) | (with_reducible refine Kd.C_drewN ?_ _) | (with_reducible refine Kd.C_drew ?_)))) : d.C w2 A n xs := k (Kd.C_below h.out hb.out)
theorem FX {t : TypeId} {cs : Array Value} (h : Aside0 (w.heap[g]? = some (.cells cs t (0, 0)))) (k : w.heap[g]? = some (.cells cs t (0, 0)) → w1.heap[g]? = some (.cells cs t (0, 0)) := by (intro h; (with_reducible repeat (first | exact h | refine blk_drewN ?_ _ | refine blk_drew ?_ | refine blk_alloc ?_ _ | refine blk_far ?_ (Aside0.out (by with_reducible assumption)) _)))) : w1.heap[g]? = some (.cells cs t (0, 0)) := k h.out
theorem PX2 {t : TypeId} {x0 x1 y0 y1 : Value} (h : Aside0 (w.heap[g]? = some (.cells #[x0, x1] t (0, 0)))) (l : ((w0.setCell ⟨g, 0, none⟩ y0).setCell ⟨g, 1, none⟩ y1).heap[g]? = some (.cells #[y0, y1] t (0, 0)) → w1.heap[g]? = some (.cells #[y0, y1] t (0, 0)) := by (intro h; (with_reducible repeat (first | refine blk_drewN ?_ _ | refine blk_drew ?_ | refine blk_alloc ?_ _)); exact h)) (k : w.heap[g]? = some (.cells #[x0, x1] t (0, 0)) → w0.heap[g]? = some (.cells #[x0, x1] t (0, 0)) := by (intro h; (with_reducible repeat (first | refine blk_drewN ?_ _ | refine blk_drew ?_ | refine blk_alloc ?_ _)); exact h)) : w1.heap[g]? = some (.cells #[y0, y1] t (0, 0)) := l (blk_put (blk_put (k h.out) 0 y0 rfl) 1 y1 rfl)
theorem far2 {y0 y1 : Value} (g : Nat) (h : d.R e w base ok v xs) (hk : ∀ k, ok k → k ≠ g := by exact (fun _ hk => hk.2)) : d.R e ((w.setCell ⟨g, 0, none⟩ y0).setCell ⟨g, 1, none⟩ y1) base ok v xs := (Kd.R_far (p := ⟨g, 1, none⟩) (Kd.R_far (p := ⟨g, 0, none⟩) h hk y0) hk y1)
theorem PX5 {t : TypeId} {x0 x1 x2 x3 x4 y0 y1 y2 y3 y4 : Value} (h : Aside0 (w.heap[g]? = some (.cells #[x0, x1, x2, x3, x4] t (0, 0)))) (l : (((((w0.setCell ⟨g, 0, none⟩ y0).setCell ⟨g, 1, none⟩ y1).setCell ⟨g, 2, none⟩ y2).setCell ⟨g, 3, none⟩ y3).setCell ⟨g, 4, none⟩ y4).heap[g]? = some (.cells #[y0, y1, y2, y3, y4] t (0, 0)) → w1.heap[g]? = some (.cells #[y0, y1, y2, y3, y4] t (0, 0)) := by (intro h; (with_reducible repeat (first | refine blk_drewN ?_ _ | refine blk_drew ?_ | refine blk_alloc ?_ _)); exact h)) (k : w.heap[g]? = some (.cells #[x0, x1, x2, x3, x4] t (0, 0)) → w0.heap[g]? = some (.cells #[x0, x1, x2, x3, x4] t (0, 0)) := by (intro h; (with_reducible repeat (first | refine blk_drewN ?_ _ | refine blk_drew ?_ | refine blk_alloc ?_ _)); exact h)) : w1.heap[g]? = some (.cells #[y0, y1, y2, y3, y4] t (0, 0)) := l (blk_put (blk_put (blk_put (blk_put (blk_put (k h.out) 0 y0 rfl) 1 y1 rfl) 2 y2 rfl) 3 y3 rfl) 4 y4 rfl)
theorem far5 {y0 y1 y2 y3 y4 : Value} (g : Nat) (h : d.R e w base ok v xs) (hk : ∀ k, ok k → k ≠ g := by exact (fun _ hk => hk.2)) : d.R e (((((w.setCell ⟨g, 0, none⟩ y0).setCell ⟨g, 1, none⟩ y1).setCell ⟨g, 2, none⟩ y2).setCell ⟨g, 3, none⟩ y3).setCell ⟨g, 4, none⟩ y4) base ok v xs := (Kd.R_far (p := ⟨g, 4, none⟩) (Kd.R_far (p := ⟨g, 3, none⟩) (Kd.R_far (p := ⟨g, 2, none⟩) (Kd.R_far (p := ⟨g, 1, none⟩) (Kd.R_far (p := ⟨g, 0, none⟩) h hk y0) hk y1) hk y2) hk y3) hk y4)
theorem PX6 {t : TypeId} {x0 x1 x2 x3 x4 x5 y0 y1 y2 y3 y4 y5 : Value} (h : Aside0 (w.heap[g]? = some (.cells #[x0, x1, x2, x3, x4, x5] t (0, 0)))) (l : ((((((w0.setCell ⟨g, 0, none⟩ y0).setCell ⟨g, 1, none⟩ y1).setCell ⟨g, 2, none⟩ y2).setCell ⟨g, 3, none⟩ y3).setCell ⟨g, 4, none⟩ y4).setCell ⟨g, 5, none⟩ y5).heap[g]? = some (.cells #[y0, y1, y2, y3, y4, y5] t (0, 0)) → w1.heap[g]? = some (.cells #[y0, y1, y2, y3, y4, y5] t (0, 0)) := by (intro h; (with_reducible repeat (first | refine blk_drewN ?_ _ | refine blk_drew ?_ | refine blk_alloc ?_ _)); exact h)) (k : w.heap[g]? = some (.cells #[x0, x1, x2, x3, x4, x5] t (0, 0)) → w0.heap[g]? = some (.cells #[x0, x1, x2, x3, x4, x5] t (0, 0)) := by (intro h; (with_reducible repeat (first | refine blk_drewN ?_ _ | refine blk_drew ?_ | refine blk_alloc ?_ _)); exact h)) : w1.heap[g]? = some (.cells #[y0, y1, y2, y3, y4, y5] t (0, 0)) := l (blk_put (blk_put (blk_put (blk_put (blk_put (blk_put (k h.out) 0 y0 rfl) 1 y1 rfl) 2 y2 rfl) 3 y3 rfl) 4 y4 rfl) 5 y5 rfl)
theorem far6 {y0 y1 y2 y3 y4 y5 : Value} (g : Nat) (h : d.R e w base ok v xs) (hk : ∀ k, ok k → k ≠ g := by exact (fun _ hk => hk.2)) : d.R e ((((((w.setCell ⟨g, 0, none⟩ y0).setCell ⟨g, 1, none⟩ y1).setCell ⟨g, 2, none⟩ y2).setCell ⟨g, 3, none⟩ y3).setCell ⟨g, 4, none⟩ y4).setCell ⟨g, 5, none⟩ y5) base ok v xs := (Kd.R_far (p := ⟨g, 5, none⟩) (Kd.R_far (p := ⟨g, 4, none⟩) (Kd.R_far (p := ⟨g, 3, none⟩) (Kd.R_far (p := ⟨g, 2, none⟩) (Kd.R_far (p := ⟨g, 1, none⟩) (Kd.R_far (p := ⟨g, 0, none⟩) h hk y0) hk y1) hk y2) hk y3) hk y4) hk y5)
theorem cyQ (h : Aside0 (d.R e w base ok (.slice A n c) xs)) : n ≤ c := (Kd.R_reads' h.out).2.1
theorem gwQ (h : Aside0 (Below w.heap.size w w1)) (hg : g = w2.heap.size) (k : Below w.heap.size w w1 → Below w.heap.size w w2 := by (intro h; repeat (first | (with_reducible first | exact h | apply below_alloc | apply pw_below_drewN | apply below_drew1 | refine below_set ?_ (Aside0.out (by with_reducible assumption))) | exact h))) : Aside0 (w.heap.size ≤ g) := ⟨hg ▸ below_size (k h.out)⟩
theorem nlQ {m : Nat} (h : Aside0 (w.heap[g]? = some o)) (hg : m = w1.heap.size) (k : w.heap[g]? = some o → w1.heap[g]? = some o := by (intro h; (with_reducible repeat (first | refine blk_drewN ?_ _ | refine blk_drew ?_ | refine blk_alloc ?_ _)); exact h)) : Aside0 (g ≠ m) := ⟨hg ▸ Nat.ne_of_lt (blk_lt (k h.out))⟩
theorem ngQ {m : Nat} (h : Aside0 (w.heap[g]? = some o)) (hg : m = w1.heap.size) (k : w.heap[g]? = some o → w1.heap[g]? = some o := by (intro h; (with_reducible repeat (first | refine blk_drewN ?_ _ | refine blk_drew ?_ | refine blk_alloc ?_ _)); exact h)) : Aside0 (m ≠ g) := ⟨hg ▸ Nat.ne_of_gt (blk_lt (k h.out))⟩
theorem retQ {p : Prop} (h : Aside0 (Below w.heap.size w w1)) (r : p := by first | rfl | (simp [errW_none, errW_some] <;> rfl) | (simp [*, errW_none, errW_some] <;> rfl)) (k : Below w.heap.size w w1 → Below w.heap.size w w2 := by (intro h; repeat (first | (with_reducible first | exact h | apply below_alloc | apply pw_below_drewN | apply below_drew1 | refine below_set ?_ (Aside0.out (by with_reducible assumption))) | exact h))) : p ∧ Below w.heap.size w w2 := ⟨r, k h.out⟩
theorem drwQ {p : Prop} (r : p := by first | rfl | (simp [*]; done)) (k : Drawn0 w w1 := by repeat (first | exact Drawn0.refl _ | apply Drawn0.step)) : p ∧ Drawn0 w w1 := ⟨r, k⟩
theorem ofD {p : Prop} [Decidable p] (h : decide p = true := by first | (with_reducible assumption) | assumption) : p := of_decide_eq_true h
theorem bindQ {β γ : Type} {x : Option β} {f : β → Option γ} {r : γ} (h : x.bind f = some r) : ∃ a, Aside0 (x = some a) ∧ f a = some r := let ⟨a, h1, h2⟩ := Option.bind_eq_some_iff.mp h; ⟨a, ⟨h1⟩, h2⟩
theorem cf2 {t : TypeId} {x0 x1 : Value} (h : Aside0 (w.heap[g]? = some (.cells #[x0, x1] t (0, 0)))) : w.cell? ⟨g, 0, none⟩ = some x0 ∧ w.cell? ⟨g, 1, none⟩ = some x1 ∧ w.frozen? ⟨g, 0, none⟩ = false ∧ w.frozen? ⟨g, 1, none⟩ = false := ⟨(blk_cell h.out 0).trans rfl, (blk_cell h.out 1).trans rfl, blk_frozen h.out 0, blk_frozen h.out 1⟩
theorem cf5 {t : TypeId} {x0 x1 x2 x3 x4 : Value} (h : Aside0 (w.heap[g]? = some (.cells #[x0, x1, x2, x3, x4] t (0, 0)))) : w.cell? ⟨g, 0, none⟩ = some x0 ∧ w.cell? ⟨g, 1, none⟩ = some x1 ∧ w.cell? ⟨g, 2, none⟩ = some x2 ∧ w.cell? ⟨g, 3, none⟩ = some x3 ∧ w.cell? ⟨g, 4, none⟩ = some x4 ∧ w.frozen? ⟨g, 0, none⟩ = false ∧ w.frozen? ⟨g, 1, none⟩ = false ∧ w.frozen? ⟨g, 2, none⟩ = false ∧ w.frozen? ⟨g, 3, none⟩ = false ∧ w.frozen? ⟨g, 4, none⟩ = false := ⟨(blk_cell h.out 0).trans rfl, (blk_cell h.out 1).trans rfl, (blk_cell h.out 2).trans rfl, (blk_cell h.out 3).trans rfl, (blk_cell h.out 4).trans rfl, blk_frozen h.out 0, blk_frozen h.out 1, blk_frozen h.out 2, blk_frozen h.out 3, blk_frozen h.out 4⟩
theorem cf6 {t : TypeId} {x0 x1 x2 x3 x4 x5 : Value} (h : Aside0 (w.heap[g]? = some (.cells #[x0, x1, x2, x3, x4, x5] t (0, 0)))) : w.cell? ⟨g, 0, none⟩ = some x0 ∧ w.cell? ⟨g, 1, none⟩ = some x1 ∧ w.cell? ⟨g, 2, none⟩ = some x2 ∧ w.cell? ⟨g, 3, none⟩ = some x3 ∧ w.cell? ⟨g, 4, none⟩ = some x4 ∧ w.cell? ⟨g, 5, none⟩ = some x5 ∧ w.frozen? ⟨g, 0, none⟩ = false ∧ w.frozen? ⟨g, 1, none⟩ = false ∧ w.frozen? ⟨g, 2, none⟩ = false ∧ w.frozen? ⟨g, 3, none⟩ = false ∧ w.frozen? ⟨g, 4, none⟩ = false ∧ w.frozen? ⟨g, 5, none⟩ = false := ⟨(blk_cell h.out 0).trans rfl, (blk_cell h.out 1).trans rfl, (blk_cell h.out 2).trans rfl, (blk_cell h.out 3).trans rfl, (blk_cell h.out 4).trans rfl, (blk_cell h.out 5).trans rfl, blk_frozen h.out 0, blk_frozen h.out 1, blk_frozen h.out 2, blk_frozen h.out 3, blk_frozen h.out 4, blk_frozen h.out 5⟩
end
theorem TX {w w1 w2 : World} (hT : Aside0 (Tabs w)) (h : Aside0 (Below w.heap.size w w1)) (k : Below w.heap.size w w1 → Below w.heap.size w w2 := by (intro h; repeat (first | (with_reducible first | exact h | apply below_alloc | apply pw_below_drewN | apply below_drew1 | refine below_set ?_ (Aside0.out (by with_reducible assumption))) | exact h))) : Tabs w2 := tabs_below hT.out (k h.out)
theorem TD {w w2 : World} (hT : Aside0 (Tabs w)) (k : Tabs w → Tabs w2 := by (intro h; repeat (first | (with_reducible exact h) | apply tabs_drewN | apply tabs_drew | apply tabs_alloc))) : Tabs w2 := k hT.out
open Go.Proofs.YtigcbajcifhinaaGreatDoorW.PrintLast
section
variable {P : Program} {ops : Array Oper} {Q : Exit → Act → World → Prop} {md : Region.Mode} {S : World → Prop} {ds : List Nat} {T : Bool × List (List Nat × List Nat)} {B : List Nat}
theorem pureQ {oi : Oper} {v : Value} {fuel : Nat} {l l' : Array Bool} {a a' : Act} {w : World} (i : Nat) (N : Option Tmp) (hT : Aside0 (rtab md ops = T)) (h : wpAnyLast P md ops Q S ds fuel l' a' w)
  (hl : l.setIfInBounds i true = l' := by (simp only [List.setIfInBounds_toArray, List.set_cons_zero, List.set_cons_succ]; rfl)) (hi : ops[i]? = some oi := by rfl) (hN : oi.dst = N := by rfl) (hc : anyT T l.toList l'.toList i = true := by kernel_rfl)
  (hQ : ∀ c a w, Q (.panic c) (a.put oi.dst v) w → Q (.panic c) a w := by exact (fun _ _ _ h => h))
  (hw : Region.wanted oi (yielded ops a.tmps) = true := by rfl) (hv : ∀ w', (execOp a.eval oi).run P w' = .ok (.value v) w' := by (intro w'; go_simp; with_reducible rfl))
  (ha : a.put N v = a' := by (simp only [Act.put, List.setIfInBounds_toArray, List.set_cons_zero, List.set_cons_succ, i64_w, i32_w]; rfl)) : wpAnyLast P md ops Q S ds (fuel + 1) l a w :=
 pure_ l' hi hN (any_of hT.out hc) hQ (.inl ⟨hw, hv⟩) ha h
theorem takeQ {oi : Oper} {v : Value} {fuel : Nat} {l l' : Array Bool} {a a' : Act} {w : World} (i : Nat) (N : Option Tmp) (hT : Aside0 (rtab md ops = T)) (hB : Aside0 (waitsOk T.2 B = true)) (hS : S w) (h : wpAnyLast P md ops Q S ds fuel l' a' w)
  (hl : l.setIfInBounds i true = l' := by (simp only [List.setIfInBounds_toArray, List.set_cons_zero, List.set_cons_succ]; rfl)) (hi : ops[i]? = some oi := by rfl) (hN : oi.dst = N := by rfl) (hc : takeW T B ds l.toList l'.toList i = true := by kernel_rfl)
  (hQ : ∀ c a w, Q (.panic c) (a.put oi.dst v) w → Q (.panic c) a w := by exact (fun _ _ _ h => h))
  (hw : Region.wanted oi (yielded ops a.tmps) = true := by rfl) (hv : ∀ w', S w' → (execOp a.eval oi).run P w' = .ok (.value v) w' := by (intro w' hS; (repeat (obtain ⟨_, hS⟩ := hS)); go_simp; with_reducible rfl))
  (ha : a.put N v = a' := by (simp only [Act.put, List.setIfInBounds_toArray, List.set_cons_zero, List.set_cons_succ, i64_w, i32_w]; rfl)) : wpAnyLast P md ops Q S ds (fuel + 1) l a w :=
 take_ l' hi hN (take_ofW hT.out hB.out hc) hQ (.inl ⟨hw, hv⟩) hS ha h
theorem oneQ {oi : Oper} {fuel : Nat} {l l' : Array Bool} {a : Act} {w : World} (i : Nat) (N : Option Tmp) (hT : Aside0 (rtab md ops = T))
  (h : ∀ K : Act → World → Prop, Shut (∀ a' w', S w' → (S w' → wpAnyLast P md ops Q S ds fuel l' a' w') → K a' w') → if Region.wanted oi (yielded ops a.tmps) = true then Oper.wp P oi a w K Q else K (a.put N undef) w)
  (hl : l.setIfInBounds i true = l' := by (simp only [List.setIfInBounds_toArray, List.set_cons_zero, List.set_cons_succ]; rfl)) (hi : ops[i]? = some oi := by rfl) (hN : oi.dst = N := by rfl) (hc : (readyT T.2 l.toList == [i] && l.toList.set i true == l'.toList) = true := by kernel_rfl) (hd : i ∉ ds := by decide) :
  wpAnyLast P md ops Q S ds (fuel + 1) l a w := one_ l' hi hN (one_of hT.out hc) hd h
theorem normQ {fuel : Nat} {l : Array Bool} {a a' : Act} {w : World} (N : Option Tmp) {v : Value} (h : wpAnyLast P md ops Q S ds fuel l a' w) (ha : a.put N v = a' := by (simp only [Act.put, List.setIfInBounds_toArray, List.set_cons_zero, List.set_cons_succ, i64_w, i32_w]; rfl)) : wpAnyLast P md ops Q S ds fuel l (a.put N v) w := norm_ ha h
theorem goesQ {oi : Oper} {N : Option Tmp} {a : Act} {w : World} {K : Act → World → Prop} {f : FuncId} {fn : Func} {ags : Array Operand} {ts : Array TypeId} (hf : P.funcs[f]? = some fn) (args : Array Value)
  (h : Calls P f args w fun e w' => ∃ v, e = .returned v ∧ K (a.put N v) w') (hname : (fn.name == "runtime.NumGoroutine") = false := by kernel_rfl) (hb : fn.body.isSome = true := by rfl)
  (hw : Region.wanted oi (yielded ops a.tmps) = true := by rfl) (hN : oi.dst = N := by rfl) (hop : oi.op = .call { callee := .value (.func f), args := ags, argTypes := ts } := by rfl) (hargs : ags.map a.eval = args := by ((try simp only [List.map_toArray, List.map_cons, List.map_nil]); first | done | rfl | (simp only [List.length_drop, List.length_take]; rfl))) :
  if Region.wanted oi (yielded ops a.tmps) = true then Oper.wp P oi a w K Q else K (a.put N undef) w := goes_ hf hname hb args hw hN hop hargs h
theorem goesLQ {rest : List Oper} {oi : Oper} {a : Act} {w : World} (N : Option Tmp) {f : FuncId} {fn : Func} {ags : Array Operand} {ts : Array TypeId} (hf : P.funcs[f]? = some fn) (args : Array Value)
  (h : Calls P f args w fun e w' => ∃ v, e = .returned v ∧ wpList P ops Q rest (a.put N v) w') (hd : oi.dst = N := by rfl) (hg : oi.guard = none := by rfl) (hname : (fn.name == "runtime.NumGoroutine") = false := by kernel_rfl) (hb : fn.body.isSome = true := by rfl)
  (hop : oi.op = .call { callee := .value (.func f), args := ags, argTypes := ts } := by rfl) (hargs : ags.map a.eval = args := by ((try simp only [List.map_toArray, List.map_cons, List.map_nil]); first | done | rfl | (simp only [List.length_drop, List.length_take]; rfl))) :
  wpList P ops Q (oi :: rest) a w := goesL_ N hd hg hf hname hb args hop hargs h
end
end Go.Proofs.YtigcbajcifhinaaGreatDoorW.PrintWords
namespace Go.Proofs.YtigcbajcifhinaaGreatDoor.Fold
open Go.ChangeShapes Go.WideShapes Go.ChangeAt Go.RowKit
open Go.ChangeMaps (open_string shut_string)
theorem own : ownKnob Tryz.prog.godebug = none := by kernel_rfl
theorem laidOut : laidOutB Tryz.prog = true := by kernel_rfl
def IsRow (k : IntKind) (w : World) (a : Option Addr) (len cap : Nat) (zs : List Int) : Prop :=
 (a = none ∧ len = 0 ∧ cap = 0 ∧ zs = []) ∨
 ∃ x, a = some x ∧ len ≤ cap ∧ cap ≤ maxLen ∧ zs.length = cap ∧ (∀ i, i < zs.length → w.cell? (x.add i) = some (.int k (zs.getD i 0))) ∧ ∀ n ∈ zs, (Lit.int k n).wf = true
theorem bulk_one {H : Type} (d : DataW H) : 1 ≤ Rows.uptoBulk d := by
 cases d with
 | lit l => cases l <;> simp [Rows.uptoBulk]
 | nil => simp [Rows.uptoBulk]
 | ptr d => simp [Rows.uptoBulk]
 | slice elems spare => simp [Rows.uptoBulk]
 | agg parts => simp [Rows.uptoBulk]
 | iface t d => simp [Rows.uptoBulk]
 | map entries => simp [Rows.uptoBulk]
 | held h => simp [Rows.uptoBulk]
theorem bulk_length {H : Type} (l : List (DataW H)) : l.length ≤ Rows.uptoBulkAll l := by
 induction l with
 | nil => simp [Rows.uptoBulkAll]
 | cons x r ih => have := bulk_one x; simp only [Rows.uptoBulkAll, List.length_cons]; omega
theorem bulk_slice {H : Type} (elems spare : List (DataW H)) : elems.length + spare.length ≤ Rows.uptoBulk (.slice elems spare) := by
 have h1 := bulk_length elems
 have h2 := bulk_length spare
 simp only [Rows.uptoBulk]
 omega
def intsOf : DataW Unit → List Value
 | .agg l => l.filterMap fun | .lit (.int k n) => some (.int k n) | _ => none
 | _ => []
def lay (cells : Array Value) : Obj → Obj
 | .cells _ t frozen => .cells cells t frozen
 | o => o
def acceptCells : Array Value := ([128, 191, 160, 191, 128, 159, 144, 191, 128, 143, 0, 0, 0, 0, 0, 0, 0, 0, 0, 0, 0, 0, 0, 0, 0, 0, 0, 0, 0, 0, 0, 0].map fun (n : Int) => Value.int .u8 n).toArray
abbrev textRange : ByteArray := ⟨#[118, 97, 108, 117, 101, 32, 111, 117, 116, 32, 111, 102, 32, 114, 97, 110, 103, 101]⟩
abbrev textSyntax : ByteArray := ⟨#[105, 110, 118, 97, 108, 105, 100, 32, 115, 121, 110, 116, 97, 120]⟩
noncomputable def low : Nat := (World.holding Tryz.prog default ⟨#[], #[], []⟩).heap.size
noncomputable def laidWorld (os : Os) : World :=
 let w0 := World.holding Tryz.prog os ⟨#[.cells #[.string textSyntax] 219, .cells #[.string textRange] 219], #[], []⟩
 { w0 with heap := (((((((w0.heap.modify 0 (lay (intsOf Rows.laid_missive_runes_windows).toArray)).modify 1 (lay (Go.Pinned.utf8FirstZ.map fun (n : Nat) => Value.int .u8 (n : Int)).toArray)).modify 2 (lay acceptCells)).modify 4 (lay #[.iface 217 (.pointer (some ⟨low, 0, none⟩))])).modify 5 (lay #[.iface 217 (.pointer (some ⟨low + 1, 0, none⟩))])).modify 6 (lay (intsOf Rows.laid_internal_strconv_uint64pow10).toArray)).modify 7 (lay (intsOf Rows.laid_math_bits_deBruijn32tab).toArray)).modify 8 (lay (intsOf Rows.laid_math_bits_deBruijn64tab).toArray) }
set_option maxRecDepth 100000 in
theorem laid_met (os : Os) (args : Array Value) : laidMet Tryz.prog Rows.mailWiderUptoRow.laid ((laidWorld os).forCall (fun _ _ => 0) ⟨#[], args, []⟩).memory :=
 laidMet_of_run' 8 (by kernel_rfl) (by kernel_rfl)
theorem first_eq : Rows.laid_unicode_utf8_first = Lib.firstData := by kernel_rfl
theorem accept_eq : (Rows.laid_unicode_utf8_acceptRanges : DataW Unit) = Lib.acceptData := by kernel_rfl
theorem windows_eq : (Rows.laid_missive_runes_windows : DataW Unit) = Lib.tabData .i32 Go.Proofs.YtigcbajcifhinaaGreatDoorW.PrintWords.winTab := by kernel_rfl
theorem tab_of_reads {W : World} {name : String} {k : IntKind} {zs : List Int} {g : Nat} {t e : TypeId} {n : Nat}
  (hg : Tryz.prog.globalNamed name = some g) (hty : (Tryz.prog.globals[g]?).map (·.type) = some t) (ht : Tryz.prog.underlying t = some (.array n e)) (he : Tryz.prog.underlying e = some (.int k)) (hce : Tryz.prog.cellsOf e = 1) (hct : Tryz.prog.cellsOf t = n)
  (h : Lib.VarReads Tryz.prog W name (Lib.tabData k zs)) : Lib.TabIs Tryz.prog W name k zs := by
 obtain ⟨g', t', cs, fuel, p, hg', ht', hvar, hd⟩ := h
 obtain rfl := Option.some.inj (hg.symm.trans hg')
 obtain rfl := Option.some.inj (hty.symm.trans ht')
 unfold Lib.TabIs
 rw [hvar, ← Lib.cells_of_tab ht he hce hct hd]
theorem tabs_of_laid {W : World} (h : laidMet Tryz.prog Rows.mailWiderUptoRow.laid W) (hS : W.ShapedOpen Tryz.prog) : Go.Proofs.YtigcbajcifhinaaGreatDoorW.PrintWords.Tabs W := by
 have h1 := Lib.laidMet.reads h (n := "unicode/utf8.first") (d := Rows.laid_unicode_utf8_first) (.tail _ (.tail _ (.tail _ (.tail _ (.tail _ (.tail _ (.tail _ (.head _))))))))
 have h2 := Lib.laidMet.reads h (n := "unicode/utf8.acceptRanges") (d := Rows.laid_unicode_utf8_acceptRanges) (.tail _ (.tail _ (.tail _ (.head _))))
 have h0 := Lib.laidMet.reads h (n := "missive/runes.windows") (d := Rows.laid_missive_runes_windows) (.tail _ (.tail _ (.tail _ (.tail _ (.tail _ (.tail _ (.head _)))))))
 rw [first_eq] at h1
 rw [accept_eq] at h2
 rw [windows_eq] at h0
 refine ⟨utf8Tabs_of_reads Tryz.lays260 ⟨by kernel_rfl, by kernel_rfl, by kernel_rfl, by kernel_rfl, by kernel_rfl, by kernel_rfl, by kernel_rfl⟩ h1 h2, ?_, ?_⟩
 · exact cell_of_shapedOpen_int (P := Tryz.prog) (g := 3) (t := 3) (zero := #[.int .i64 0]) hS (of_decide_eq_true (by kernel_rfl)) (by kernel_rfl) rfl (by kernel_rfl) (by kernel_rfl) Tryz.underlying3
 ·
  intro i hi
  have hg : Tryz.prog.globalNamed "missive/runes.windows" = some 0 := by kernel_rfl
  have ht : ∃ t, (Tryz.prog.globals[0]?).map (·.type) = some t := ⟨_, rfl⟩
  exact (tab_of_reads hg (t := 168) (e := 21) (n := 32) (by kernel_rfl) Tryz.underlying168 Tryz.underlying21 (by kernel_rfl) (by kernel_rfl) h0).cell hg i hi
end Go.Proofs.YtigcbajcifhinaaGreatDoor.Fold
namespace Go.Proofs.YtigcbajcifhinaaGreatDoor.V
open Go.RowKit Go.Proofs.YtigcbajcifhinaaGreatDoorW.PrintWords Go.Proofs.YtigcbajcifhinaaGreatDoorW.PrintLast Go.Proofs.YtigcbajcifhinaaGreatDoorW.PrintMore
attribute [local go_sem] max2_int min2_int max_two min_two max_three min_three max_four min_four
mutual
def fold_pairs.j0 : Nat → Int → Bool → Option (Int)
 | 0, _, _ => none
 | k + 1, x0, x3 => if x3 = true then (fold_pairs.j1 k x0 x3) else (if x0 ≥ 306 then (if x0 ≤ 311 then (fold_pairs.j1 k x0 (decide (x0 ≤ 311))) else (if x0 ≥ 330 then (fold_pairs.j1 k x0 (decide (x0 ≤ 375))) else (fold_pairs.j1 k x0 false))) else (if x0 ≥ 330 then (fold_pairs.j1 k x0 (decide (x0 ≤ 375))) else (fold_pairs.j1 k x0 false)))
def fold_pairs.j1 : Nat → Int → Bool → Option (Int)
 | 0, _, _ => none
 | k + 1, x0, x3 => if x3 = true then (some 0) else (if x0 ≥ 313 then (fold_pairs.j2 k x0 (decide (x0 ≤ 328))) else (fold_pairs.j2 k x0 false))
def fold_pairs.j2 : Nat → Int → Bool → Option (Int)
 | 0, _, _ => none
 | k + 1, x0, x22 => if x22 = true then (some 1) else (if x0 ≥ 377 then (if x0 ≤ 382 then (some 1) else (some (-1))) else (some (-1)))
end
def fold_pairs.f (k : Nat) (a0 : Int) : Option (Int) := if a0 ≥ 256 then (fold_pairs.j0 k a0 (decide (a0 ≤ 303))) else (fold_pairs.j0 k a0 false)
theorem fold_pairs.mono_l : ∀ k, (∀ y0 y1, LeO (fold_pairs.j0 k y0 y1) (fold_pairs.j0 (k + 1) y0 y1)) ∧ (∀ y0 y1, LeO (fold_pairs.j1 k y0 y1) (fold_pairs.j1 (k + 1) y0 y1)) ∧ (∀ y0 y1, LeO (fold_pairs.j2 k y0 y1) (fold_pairs.j2 (k + 1) y0 y1))
 | 0 => ⟨fun _ _ r h => by simp [fold_pairs.j0] at h, fun _ _ r h => by simp [fold_pairs.j1] at h, fun _ _ r h => by simp [fold_pairs.j2] at h⟩
 | k + 1 => by
  obtain ⟨ih0, ih1, ih2⟩ := fold_pairs.mono_l k
  refine ⟨?_, ?_, ?_⟩
  ·
   intro y0 y1
   unfold fold_pairs.j0
   repeat' (with_reducible first | apply ih0 | apply ih1 | apply ih2 | apply LeO.refl | exact LeO.none _ | apply LeO.ite | refine LeO.bind ?_ fun _ => ?_)
  ·
   intro y0 y1
   unfold fold_pairs.j1
   repeat' (with_reducible first | apply ih0 | apply ih1 | apply ih2 | apply LeO.refl | exact LeO.none _ | apply LeO.ite | refine LeO.bind ?_ fun _ => ?_)
  ·
   intro y0 y1
   unfold fold_pairs.j2
   repeat' (with_reducible first | apply ih0 | apply ih1 | apply ih2 | apply LeO.refl | exact LeO.none _ | apply LeO.ite | refine LeO.bind ?_ fun _ => ?_)
theorem fold_pairs.mono : ∀ a0 k, LeO (fold_pairs.f k a0) (fold_pairs.f (k + 1) a0) := by
 intro a0 k
 obtain ⟨ih0, ih1, ih2⟩ := fold_pairs.mono_l k
 unfold fold_pairs.f
 repeat' (with_reducible first | apply ih0 | apply ih1 | apply ih2 | apply LeO.refl | exact LeO.none _ | apply LeO.ite | refine LeO.bind ?_ fun _ => ?_)
set_option maxHeartbeats 8000000 in
set_option maxRecDepth 100000 in
theorem fold_pairs.calls (k : Nat) (a0 : Int) (r : Int) (w : World) (h : fold_pairs.f k a0 = some r) :
  Calls Tryz.prog 66 #[.int .i32 a0] w fun e w' => e = .returned (.int .i32 r) ∧ Drawn0 w w' := by
 have H : (if a0 ≥ 256 then (fold_pairs.j0 k a0 (decide (a0 ≤ 303))) else (fold_pairs.j0 k a0 false)) = some r := h
 clear h
 have HC2 := Aside0.mk H
 clear H
 go_enter Tryz.func66, Tryz.ntmps66
 go_upto_region 1 with (fail)
 go_cut [3] (fun v3 wc => ∃ (kq : Nat) (x3_1 : Bool), v3 = .bool x3_1 ∧ Aside0 (fold_pairs.j0 kq a0 x3_1 = some r) ∧ Aside0 (kq ≤ k) ∧ Drawn0 w wc)
 case first =>
  have H := HC2.out
  clear HC2
  by_cases c3 : a0 ≥ 256
  ·
   rw [if_pos c3] at H
   have c3b0 : decide (256 ≤ a0) = true := decide_eq_true c3
   clear c3
   (first | rw [c3b0] | (simp only [i64_w, i32_w]; rw [c3b0]) | skip)
   have H' := Aside0.mk H
   clear H
   go_wp2
   go_meet
   case rel => exact ⟨_, (decide (a0 ≤ 303)), (by first | rfl | (simp [*]; done)), H', ⟨by first | omega | exact Nat.le_refl _⟩, by repeat (first | exact Drawn0.refl _ | apply Drawn0.step)⟩
  ·
   rw [if_neg c3] at H
   have c3b0 : decide (256 ≤ a0) = false := decide_eq_false c3
   clear c3
   (first | rw [c3b0] | (simp only [i64_w, i32_w]; rw [c3b0]) | skip)
   have H' := Aside0.mk H
   clear H
   go_wp2
   go_meet
   case rel => exact ⟨_, (false), (by first | rfl | (simp [*]; done)), H', ⟨by first | omega | exact Nat.le_refl _⟩, by repeat (first | exact Drawn0.refl _ | apply Drawn0.step)⟩
 case rest =>
  clear HC2
  obtain ⟨kq, x3_1, rfl, HA, HJ1, ⟨mc1, rfl⟩⟩ := hcut
  cases kq with
  | zero => exact absurd HA.out (by simp [fold_pairs.j0])
  | succ kj1 =>
   have H := HA.out
   clear HA
   simp only [fold_pairs.j0] at H
   have HC4 := Aside0.mk H
   clear H
   go_upto_if 3 with (fail)
   go_cut [3] (fun v3 wc => ∃ (kq : Nat) (x3_3 : Bool), v3 = .bool x3_3 ∧ Aside0 (fold_pairs.j1 kq a0 x3_3 = some r) ∧ Aside0 (kq ≤ kj1) ∧ Drawn0 w wc)
   case first =>
    have H := HC4.out
    clear HC4
    by_cases c5 : x3_1 = true
    ·
     subst c5
     have H1 : (fold_pairs.j1 kj1 a0 true) = some r := by rw [if_pos rfl] at H; exact H
     clear H
     have H := H1
     clear H1
     have H' := Aside0.mk H
     clear H
     go_wp2
     go_meet
     case rel => exact ⟨_, (true), (by first | rfl | (simp [*]; done)), H', ⟨by have := HJ1.out; first | omega | exact Nat.le_refl _⟩, by repeat (first | exact Drawn0.refl _ | apply Drawn0.step)⟩
    ·
     replace c5 := Bool.eq_false_iff.mpr c5
     subst c5
     have H1 : (if a0 ≥ 306 then (if a0 ≤ 311 then (fold_pairs.j1 kj1 a0 (decide (a0 ≤ 311))) else (if a0 ≥ 330 then (fold_pairs.j1 kj1 a0 (decide (a0 ≤ 375))) else (fold_pairs.j1 kj1 a0 false))) else (if a0 ≥ 330 then (fold_pairs.j1 kj1 a0 (decide (a0 ≤ 375))) else (fold_pairs.j1 kj1 a0 false))) = some r := by rw [if_neg (show ¬ (false = true) by decide)] at H; exact H
     clear H
     have H := H1
     clear H1
     by_cases c6 : a0 ≥ 306
     ·
      rw [if_pos c6] at H
      have c6b0 : decide (306 ≤ a0) = true := decide_eq_true c6
      clear c6
      (first | rw [c6b0] | (simp only [i64_w, i32_w]; rw [c6b0]) | skip)
      by_cases c7 : a0 ≤ 311
      ·
       rw [if_pos c7] at H
       have c7b0 : decide (a0 ≤ 311) = true := decide_eq_true c7
       clear c7
       have H' := Aside0.mk H
       clear H
       go_wp2
       go_meet
       case rel => exact ⟨_, (decide (a0 ≤ 311)), (by first | rfl | (simp [*]; done)), H', ⟨by have := HJ1.out; first | omega | exact Nat.le_refl _⟩, by repeat (first | exact Drawn0.refl _ | apply Drawn0.step)⟩
      ·
       rw [if_neg c7] at H
       have c7b0 : decide (a0 ≤ 311) = false := decide_eq_false c7
       clear c7
       by_cases c8 : a0 ≥ 330
       ·
        rw [if_pos c8] at H
        have c8b0 : decide (330 ≤ a0) = true := decide_eq_true c8
        clear c8
        have H' := Aside0.mk H
        clear H
        go_wp2
        go_meet
        case rel => exact ⟨_, (decide (a0 ≤ 375)), (by first | rfl | (simp [*]; done)), H', ⟨by have := HJ1.out; first | omega | exact Nat.le_refl _⟩, by repeat (first | exact Drawn0.refl _ | apply Drawn0.step)⟩
       ·
        rw [if_neg c8] at H
        have c8b0 : decide (330 ≤ a0) = false := decide_eq_false c8
        clear c8
        have H' := Aside0.mk H
        clear H
        go_wp2
        go_meet
        case rel => exact ⟨_, (false), (by first | rfl | (simp [*]; done)), H', ⟨by have := HJ1.out; first | omega | exact Nat.le_refl _⟩, by repeat (first | exact Drawn0.refl _ | apply Drawn0.step)⟩
     ·
      rw [if_neg c6] at H
      have c6b0 : decide (306 ≤ a0) = false := decide_eq_false c6
      clear c6
      (first | rw [c6b0] | (simp only [i64_w, i32_w]; rw [c6b0]) | skip)
      by_cases c9 : a0 ≥ 330
      ·
       rw [if_pos c9] at H
       have c9b0 : decide (330 ≤ a0) = true := decide_eq_true c9
       clear c9
       have H' := Aside0.mk H
       clear H
       go_wp2
       go_meet
       case rel => exact ⟨_, (decide (a0 ≤ 375)), (by first | rfl | (simp [*]; done)), H', ⟨by have := HJ1.out; first | omega | exact Nat.le_refl _⟩, by repeat (first | exact Drawn0.refl _ | apply Drawn0.step)⟩
      ·
       rw [if_neg c9] at H
       have c9b0 : decide (330 ≤ a0) = false := decide_eq_false c9
       clear c9
       have H' := Aside0.mk H
       clear H
       go_wp2
       go_meet
       case rel => exact ⟨_, (false), (by first | rfl | (simp [*]; done)), H', ⟨by have := HJ1.out; first | omega | exact Nat.le_refl _⟩, by repeat (first | exact Drawn0.refl _ | apply Drawn0.step)⟩
   case rest =>
    clear HC4
    obtain ⟨kq, x3_3, rfl, HA, HJ3, ⟨mc3, rfl⟩⟩ := hcut
    cases kq with
    | zero => exact absurd HA.out (by simp [fold_pairs.j1])
    | succ kj3 =>
     have H := HA.out
     clear HA
     simp only [fold_pairs.j1] at H
     by_cases c10 : x3_3 = true
     ·
      subst c10
      have H1 : (some 0) = some r := by rw [if_pos rfl] at H; exact H
      clear H
      have H := H1
      clear H1
      obtain rfl := Option.some.inj H
      go_wp2
      go_ret
      exact drwQ
     ·
      replace c10 := Bool.eq_false_iff.mpr c10
      subst c10
      have H1 : (if a0 ≥ 313 then (fold_pairs.j2 kj3 a0 (decide (a0 ≤ 328))) else (fold_pairs.j2 kj3 a0 false)) = some r := by rw [if_neg (show ¬ (false = true) by decide)] at H; exact H
      clear H
      have H := H1
      clear H1
      have HC11 := Aside0.mk H
      clear H
      go_upto_region 5 with (fail)
      go_cut [22] (fun v22 wc => ∃ (kq : Nat) (x22_10 : Bool), v22 = .bool x22_10 ∧ Aside0 (fold_pairs.j2 kq a0 x22_10 = some r) ∧ Aside0 (kq ≤ kj3) ∧ Drawn0 w wc)
      case first =>
       have H := HC11.out
       clear HC11
       by_cases c12 : a0 ≥ 313
       ·
        rw [if_pos c12] at H
        have c12b0 : decide (313 ≤ a0) = true := decide_eq_true c12
        clear c12
        (first | rw [c12b0] | (simp only [i64_w, i32_w]; rw [c12b0]) | skip)
        have H' := Aside0.mk H
        clear H
        go_wp2
        go_meet
        case rel => exact ⟨_, (decide (a0 ≤ 328)), (by first | rfl | (simp [*]; done)), H', ⟨by have := HJ1.out; have := HJ3.out; first | omega | exact Nat.le_refl _⟩, by repeat (first | exact Drawn0.refl _ | apply Drawn0.step)⟩
       ·
        rw [if_neg c12] at H
        have c12b0 : decide (313 ≤ a0) = false := decide_eq_false c12
        clear c12
        (first | rw [c12b0] | (simp only [i64_w, i32_w]; rw [c12b0]) | skip)
        have H' := Aside0.mk H
        clear H
        go_wp2
        go_meet
        case rel => exact ⟨_, (false), (by first | rfl | (simp [*]; done)), H', ⟨by have := HJ1.out; have := HJ3.out; first | omega | exact Nat.le_refl _⟩, by repeat (first | exact Drawn0.refl _ | apply Drawn0.step)⟩
      case rest =>
       clear HC11
       obtain ⟨kq, x22_10, rfl, HA, HJ10, ⟨mc10, rfl⟩⟩ := hcut
       cases kq with
       | zero => exact absurd HA.out (by simp [fold_pairs.j2])
       | succ kj10 =>
        have H := HA.out
        clear HA
        simp only [fold_pairs.j2] at H
        by_cases c13 : x22_10 = true
        ·
         subst c13
         have H1 : (some 1) = some r := by rw [if_pos rfl] at H; exact H
         clear H
         have H := H1
         clear H1
         obtain rfl := Option.some.inj H
         go_wp2
         go_ret
         exact drwQ
        ·
         replace c13 := Bool.eq_false_iff.mpr c13
         subst c13
         have H1 : (if a0 ≥ 377 then (if a0 ≤ 382 then (some 1) else (some (-1))) else (some (-1))) = some r := by rw [if_neg (show ¬ (false = true) by decide)] at H; exact H
         clear H
         have H := H1
         clear H1
         by_cases c14 : a0 ≥ 377
         ·
          rw [if_pos c14] at H
          have c14b0 : decide (377 ≤ a0) = true := decide_eq_true c14
          clear c14
          by_cases c15 : a0 ≤ 382
          ·
           rw [if_pos c15] at H
           have c15b0 : decide (a0 ≤ 382) = true := decide_eq_true c15
           clear c15
           obtain rfl := Option.some.inj H
           go_wp2
           go_ret
           exact drwQ
          ·
           rw [if_neg c15] at H
           have c15b0 : decide (a0 ≤ 382) = false := decide_eq_false c15
           clear c15
           obtain rfl := Option.some.inj H
           go_wp2
           go_ret
           exact drwQ
         ·
          rw [if_neg c14] at H
          have c14b0 : decide (377 ≤ a0) = false := decide_eq_false c14
          clear c14
          obtain rfl := Option.some.inj H
          go_wp2
          go_ret
          exact drwQ
def fold_odd.f (a0 : Int) : Option (Int) := if a0 = 376 then (some 255) else (if a0 = 383 then (some 115) else (if a0 = 181 then (some 956) else (if a0 = 962 then (some 963) else (if a0 = 7838 then (some 223) else (if a0 = 8486 then (some 969) else (if a0 = 8490 then (some 107) else (if a0 = 8491 then (some 229) else (some a0))))))))
set_option maxHeartbeats 8000000 in
set_option maxRecDepth 100000 in
theorem fold_odd.calls (a0 : Int) (r : Int) (w : World) (h : fold_odd.f a0 = some r) :
  Calls Tryz.prog 67 #[.int .i32 a0] w fun e w' => e = .returned (.int .i32 r) ∧ Drawn0 w w' := by
 have H : (if a0 = 376 then (some 255) else (if a0 = 383 then (some 115) else (if a0 = 181 then (some 956) else (if a0 = 962 then (some 963) else (if a0 = 7838 then (some 223) else (if a0 = 8486 then (some 969) else (if a0 = 8490 then (some 107) else (if a0 = 8491 then (some 229) else (some a0))))))))) = some r := h
 clear h
 by_cases c2 : a0 = 376
 ·
  rw [if_pos c2] at H
  have c2b0 : (a0 == 376) = true := beq_iff_eq.mpr c2
  have c2b1 : (a0 != 376) = false := bne_eq_false_iff_eq.mpr c2
  clear c2
  obtain rfl := Option.some.inj H
  go_enter Tryz.func67, Tryz.ntmps67
  go_wp2
  go_ret
  exact drwQ
 ·
  rw [if_neg c2] at H
  have c2b0 : (a0 == 376) = false := beq_eq_false_iff_ne.mpr c2
  have c2b1 : (a0 != 376) = true := bne_iff_ne.mpr c2
  by_cases c3 : a0 = 383
  ·
   rw [if_pos c3] at H
   have c3b0 : (a0 == 383) = true := beq_iff_eq.mpr c3
   have c3b1 : (a0 != 383) = false := bne_eq_false_iff_eq.mpr c3
   clear c3
   obtain rfl := Option.some.inj H
   go_enter Tryz.func67, Tryz.ntmps67
   go_wp2
   go_ret
   exact drwQ
  ·
   rw [if_neg c3] at H
   have c3b0 : (a0 == 383) = false := beq_eq_false_iff_ne.mpr c3
   have c3b1 : (a0 != 383) = true := bne_iff_ne.mpr c3
   by_cases c4 : a0 = 181
   ·
    rw [if_pos c4] at H
    have c4b0 : (a0 == 181) = true := beq_iff_eq.mpr c4
    have c4b1 : (a0 != 181) = false := bne_eq_false_iff_eq.mpr c4
    clear c4
    obtain rfl := Option.some.inj H
    go_enter Tryz.func67, Tryz.ntmps67
    go_wp2
    go_ret
    exact drwQ
   ·
    rw [if_neg c4] at H
    have c4b0 : (a0 == 181) = false := beq_eq_false_iff_ne.mpr c4
    have c4b1 : (a0 != 181) = true := bne_iff_ne.mpr c4
    by_cases c5 : a0 = 962
    ·
     rw [if_pos c5] at H
     have c5b0 : (a0 == 962) = true := beq_iff_eq.mpr c5
     have c5b1 : (a0 != 962) = false := bne_eq_false_iff_eq.mpr c5
     clear c5
     obtain rfl := Option.some.inj H
     go_enter Tryz.func67, Tryz.ntmps67
     go_wp2
     go_ret
     exact drwQ
    ·
     rw [if_neg c5] at H
     have c5b0 : (a0 == 962) = false := beq_eq_false_iff_ne.mpr c5
     have c5b1 : (a0 != 962) = true := bne_iff_ne.mpr c5
     by_cases c6 : a0 = 7838
     ·
      rw [if_pos c6] at H
      have c6b0 : (a0 == 7838) = true := beq_iff_eq.mpr c6
      have c6b1 : (a0 != 7838) = false := bne_eq_false_iff_eq.mpr c6
      clear c6
      obtain rfl := Option.some.inj H
      go_enter Tryz.func67, Tryz.ntmps67
      go_wp2
      go_ret
      exact drwQ
     ·
      rw [if_neg c6] at H
      have c6b0 : (a0 == 7838) = false := beq_eq_false_iff_ne.mpr c6
      have c6b1 : (a0 != 7838) = true := bne_iff_ne.mpr c6
      by_cases c7 : a0 = 8486
      ·
       rw [if_pos c7] at H
       have c7b0 : (a0 == 8486) = true := beq_iff_eq.mpr c7
       have c7b1 : (a0 != 8486) = false := bne_eq_false_iff_eq.mpr c7
       clear c7
       obtain rfl := Option.some.inj H
       go_enter Tryz.func67, Tryz.ntmps67
       go_wp2
       go_ret
       exact drwQ
      ·
       rw [if_neg c7] at H
       have c7b0 : (a0 == 8486) = false := beq_eq_false_iff_ne.mpr c7
       have c7b1 : (a0 != 8486) = true := bne_iff_ne.mpr c7
       by_cases c8 : a0 = 8490
       ·
        rw [if_pos c8] at H
        have c8b0 : (a0 == 8490) = true := beq_iff_eq.mpr c8
        have c8b1 : (a0 != 8490) = false := bne_eq_false_iff_eq.mpr c8
        clear c8
        obtain rfl := Option.some.inj H
        go_enter Tryz.func67, Tryz.ntmps67
        go_wp2
        go_ret
        exact drwQ
       ·
        rw [if_neg c8] at H
        have c8b0 : (a0 == 8490) = false := beq_eq_false_iff_ne.mpr c8
        have c8b1 : (a0 != 8490) = true := bne_iff_ne.mpr c8
        by_cases c9 : a0 = 8491
        ·
         rw [if_pos c9] at H
         have c9b0 : (a0 == 8491) = true := beq_iff_eq.mpr c9
         have c9b1 : (a0 != 8491) = false := bne_eq_false_iff_eq.mpr c9
         clear c9
         obtain rfl := Option.some.inj H
         go_enter Tryz.func67, Tryz.ntmps67
         go_wp2
         go_ret
         exact drwQ
        ·
         rw [if_neg c9] at H
         have c9b0 : (a0 == 8491) = false := beq_eq_false_iff_ne.mpr c9
         have c9b1 : (a0 != 8491) = true := bne_iff_ne.mpr c9
         obtain rfl := Option.some.inj H
         go_enter Tryz.func67, Tryz.ntmps67
         go_wp2
         go_ret
         exact drwQ
end Go.Proofs.YtigcbajcifhinaaGreatDoor.V
namespace Go.Proofs.YtigcbajcifhinaaGreatDoor.Fold
open Go.RowKit Go.Proofs.YtigcbajcifhinaaGreatDoorW.PrintWords
theorem set_size (w : World) (p : Addr) (u : Value) : (w.setCell p u).heap.size = w.heap.size := by simp [World.setCell]
theorem far_size {w wr : World} {p : Addr} {u : Value} {q : Nat} (h : w.heap.size < wr.heap.size) (hq : (wr.setCell p u).heap.size ≤ q) : q ≠ w.heap.size := by
 rw [set_size] at hq
 omega
theorem size_le {w wr : World} {p : Addr} {u : Value} (h : w.heap.size < wr.heap.size) : w.heap.size ≤ (wr.setCell p u).heap.size := by
 rw [set_size]
 omega
def lenV : Value → Nat
 | .slice _ n _ => n
 | _ => 0
set_option maxRecDepth 100000 in
set_option maxHeartbeats 1000000 in
theorem next_any (s : ByteArray) (g : Nat) (n k : Nat) (w : World) (hT : Lib.Utf8Tabs 1 2 w) (hd : Lib.decodeGo s = (n, k)) (hk : k ≤ s.size)
  (hh : w.heap[g]? = some (.cells #[.pointer none, .slice none 0 0, .string s] 70 (0, 0))) :
  Calls Tryz.prog 30 #[.pointer (some ⟨g, 0, none⟩)] w fun e w' => e = .returned (.int .i32 (n : Int)) ∧ ∃ w1, Below w.heap.size w w1 ∧ w' = w1.setCell ⟨g, 2, none⟩ (.string (s.extract k s.size)) := by
 have hc : w.cell? ⟨g, 2, none⟩ = some (.string s) := blk_cell hh 2
 have D := Tryz.utf8_DecodeRuneInString s w hT
 rw [hd] at D
 have HD := Lib.hid D
 clear D
 have HH := Lib.hid hh
 have HX := Lib.hid hd
 clear hh hd
 have c1 : decide ((0 : Int) ≤ (k : Int)) = true := decide_eq_true (by omega)
 have c2 : decide ((k : Int) ≤ (s.size : Int)) = true := decide_eq_true (by omega)
 go_enter Tryz.func30, Tryz.ntmps30
 go_wp2_with (first | (go_at_call 64; refine HD.out.mono ?_; rintro e w1 ⟨rfl, hw1⟩; have h2 := hw1.block g (blk_lt HH.out); rw [HH.out] at h2; have hc1 : w1.cell? ⟨g, 2, none⟩ = some (.string s) := blk_cell h2 2; have hf1 := blk_frozen h2 2; have HB := Lib.hid hw1; have H2 := Lib.hid h2; clear hw1 h2))
 go_ret
 exact ⟨rfl, _, HB.out, rfl⟩
def lettersF : Nat → ByteArray → List Int
 | 0, _ => []
 | m + 1, s => if s.toList.isEmpty = true then [] else ((Lib.decodeGo s).1 : Int) :: lettersF m (s.extract (Lib.decodeGo s).2 s.size)
theorem tabs_below {w w1 : World} (hT : Lib.Utf8Tabs 1 2 w) (hB : Below w.heap.size w w1) : Lib.Utf8Tabs 1 2 w1 :=
  ⟨fun c hc => (hB.cell (World.block_lt_of_cell? w _ (hT.1 c hc))).trans (hT.1 c hc),
   fun i hi => ⟨(hB.cell (World.block_lt_of_cell? w _ (hT.2 i hi).1)).trans (hT.2 i hi).1, (hB.cell (World.block_lt_of_cell? w _ (hT.2 i hi).2)).trans (hT.2 i hi).2⟩⟩
theorem decode_pos (s : ByteArray) (h : 0 < s.size) : 1 ≤ (Lib.decodeGo s).2 := by
 unfold Lib.decodeGo
 rw [if_neg (by omega), Lib.decode_at]
 unfold Lib.decodeN
 repeat' split
 all_goals simp
theorem empty_iff (s : ByteArray) : s.toList.isEmpty = true ↔ s.size = 0 := by
 rw [Lib.toList_data, List.isEmpty_iff_length_eq_zero, Lib.size_eq]
set_option maxRecDepth 100000 in
set_option maxHeartbeats 1000000 in
theorem Letters_any (s : ByteArray) (w : World) (hT : Lib.Utf8Tabs 1 2 w) (hs : s.size ≤ 17592186044416) : Calls Tryz.prog 12 #[.string s] w fun e w' => ∃ v, e = .returned v ∧ Kd.R (Kd.int .i32) 21 w' w.heap.size (fun _ => True) v (lettersF s.size s) ∧ Below w.heap.size w w' := by
 have HT := Lib.hid hT
 have HN := Lib.hid hs
 clear hT hs
 go_enter Tryz.func12, Tryz.ntmps12
 go_wp2
 go_loopw [3] (fun v wr => ∃ (r : ByteArray) (m : Nat) (o : List Int), Hid (lettersF s.size s = o ++ lettersF m r) ∧ Hid (r.size ≤ m) ∧ Hid (m + o.length = s.size) ∧ Hid ((Kd.int .i32).R 21 wr w.heap.size (fun b => b ≠ w.heap.size) v o) ∧ Hid (wr.heap[w.heap.size]? = some (.cells #[.pointer none, .slice none 0 0, .string r] 70 (0, 0))) ∧ Hid (Below w.heap.size w wr)) (fun v _ => s.size - lenV v)
 case atStart =>
  exact ⟨s, s.size, [], Lib.hid rfl, Lib.hid (Nat.le_refl _), Lib.hid rfl, Lib.hid (Kd.R_nil _ _ _ _ _), Lib.hid Array.getElem?_push_size, Lib.hid ((Below.refl _ _).alloc (Nat.le_refl _) _)⟩
 case round =>
  obtain ⟨r, m, o, hl, hr, hm, HR, hh, HB⟩ := hrel
  have hc : wr.cell? ⟨w.heap.size, 2, none⟩ = some (.string r) := blk_cell hh.out 2
  have hf := blk_frozen hh.out 2
  cases e : r.toList.isEmpty with
  | true =>
   go_wp2
   go_ret
   refine ⟨_, rfl, Kd.R_mono (ok := fun b => b ≠ w.heap.size) ?_ (fun _ _ => trivial), HB.out⟩
   have e2 : lettersF m r = [] := by
    cases m with
    | zero => rfl
    | succ m => unfold lettersF; rw [if_pos e]
   rw [hl.out, e2, List.append_nil]
   exact HR.out
  | false =>
   have h0 : 0 < r.size := by
    have : ¬ r.size = 0 := fun h => by rw [(empty_iff r).2 h] at e; cases e
    omega
   have P1 := Lib.hid (decode_pos r h0)
   have P2 := Lib.hid (Lib.decodeGo_le_size r)
   have ES := Lib.hid e
   have H0 := Lib.hid h0
   obtain ⟨n, k, hd⟩ : ∃ n k, Lib.decodeGo r = (n, k) := ⟨_, _, rfl⟩
   have HD := Lib.hid hd
   have kle : k ≤ r.size := by have := P2.out; rw [hd] at this; exact this
   have NX := Lib.hid (next_any r w.heap.size n k wr (tabs_below HT.out HB.out) hd kle hh.out)
   have HG := Lib.hid (show w.heap.size < wr.heap.size from blk_lt hh.out)
   have KL := Lib.hid kle
   clear h0 hd kle
   go_wp2_with (first | (go_at_call 30; refine NX.out.mono ?_; rintro e w' ⟨rfl, w1, hb1, rfl⟩; have HB1 := Lib.hid hb1; clear hb1) | ((with_reducible refine gate_builtin (b := .append) (xs := #[.tmp 13, .tmp 16]) rfl ?_); (go_loud (at_builtin; refine Kd.R_append (Kd.int .i32) (w0 := w) w.heap.size rfl (.tmp 13) (.tmp 16) 22 21 (.int .i32 0) 4 rfl Tryz.underlying22 V.info21 rfl (by decide) (by omega) u3 o (n : Int) [.int .i32 (n : Int)] (fun b => b ≠ w.heap.size) (fun _ => False) rfl (by rw [set_size]; rfl) ?aP (fun _ hk => hk.elim) ?aF ?aO ?aB ?aS ?aL ?_; (case aP => exact rfl); (case aB => exact (Below.setCell (below_then HB.out (Nat.le_of_lt HG.out) HB1.out) (Nat.le_refl _) _)); (case aF => exact (fun q hq => far_size (Nat.lt_of_lt_of_le HG.out HB1.out.size) hq)); (case aO => exact Kd.R_far (Kd.R_below HR.out HB1.out) (fun q hq => hq) _); (case aS => exact size_le (Nat.lt_of_lt_of_le HG.out HB1.out.size)); (case aL => exact (by have h1 := HN.out; have h2 := hm.out; omega)); intro v1 w2 ho hb hg hat))))
   go_roundw
   case measure =>
    have h1 := hm.out
    have h2 := hr.out
    have h3 := H0.out
    obtain ⟨A1, c1, e1⟩ := Kd.R_slice ho
    obtain ⟨A0, c0, e0⟩ := Kd.R_slice HR.out
    rw [e1, e0]
    simp only [lenV, List.length_append, List.length_singleton]
    omega
   case rel =>
    have h1 := hm.out
    have h2 := hr.out
    have h3 := H0.out
    have h4 := P1.out
    rw [HD.out] at h4
    cases m with
    | zero => omega
    | succ m =>
     refine ⟨r.extract k r.size, m, o ++ [(n : Int)], Lib.hid ?_, Lib.hid ?_, Lib.hid ?_, Lib.hid ho, Lib.hid ?_, Lib.hid hb⟩
     ·
      rw [hl.out]
      conv => lhs; unfold lettersF
      rw [if_neg (by rw [ES.out]; decide), HD.out]
      simp
     ·
      rw [ByteArray.size_extract]
      simp only at h4
      omega
     · rw [List.length_append, List.length_singleton]; omega
     ·
      have h5 := blk_set ((HB1.out.block w.heap.size HG.out).trans hh.out) 2 (.string (r.extract k r.size))
      have h6 := blk_grown h5 hg (fun e => (HR.out.1 _ e.symm) rfl)
      rw [h6]
      rfl
end Go.Proofs.YtigcbajcifhinaaGreatDoor.Fold
namespace Go.Proofs.YtigcbajcifhinaaGreatDoor.Txt
open Go.RowKit Go.Proofs.YtigcbajcifhinaaGreatDoorW.PrintWords
theorem sizeB : (Tryz.prog.info? 68).map (·.size) = some 2 := by kernel_rfl
theorem liesR : liesAt Tryz.prog Tryz.prog.depth 70 (3 / Tryz.prog.cellsOf 70) 0 68 1 = true := by kernel_rfl
set_option maxHeartbeats 1000000 in
set_option maxRecDepth 100000 in
theorem rcopy_used (b : Nat) (w : World) (h0 : w.cell? ⟨b, 0, none⟩ = some (.pointer (some ⟨b, 0, none⟩))) :
  Calls Tryz.prog 78 #[.pointer (some ⟨b, 0, none⟩)] w fun e w' => e = .returned (.tuple #[]) ∧ w' = w := by
 obtain ⟨j, hj, _⟩ := Option.map_eq_some_iff.1 sizeB
 go_enter Tryz.func78, Tryz.ntmps78
 go_wp2
 rw [Lib.run_neq_ptr_same w _ Tryz.underlying65 hj]
 go_wp2
 go_end0
 exact ⟨rfl, rfl⟩
set_option maxHeartbeats 1000000 in
set_option maxRecDepth 100000 in
theorem rcopy_fresh (b : Nat) (w : World) (h0 : w.cell? ⟨b, 0, none⟩ = some (.pointer none)) (hsh : w.shape? b = some (70, 3)) (hfz : w.frozen? ⟨b, 0, none⟩ = false) :
  Calls Tryz.prog 78 #[.pointer (some ⟨b, 0, none⟩)] w fun e w' => e = .returned (.tuple #[]) ∧ w' = w.setCell ⟨b, 0, none⟩ (.pointer (some ⟨b, 0, none⟩)) := by
 obtain ⟨j, hj, hjs⟩ := Option.map_eq_some_iff.1 sizeB
 go_enter Tryz.func78, Tryz.ntmps78
 go_wp2
 rw [Lib.run_to_unsafe w ⟨b, 0, none⟩ Tryz.underlying65 Tryz.underlying149 hj (by rw [hjs]; decide) hsh (show (0 : Nat) < 3 by decide)]
 simp only [Result.andThen]
 rw [Oper.upon_value]
 go_wp2
 rw [run_callFunc_extern Tryz.func108 (by kernel_rfl) (by kernel_rfl) (by kernel_rfl) (e := Extern.AbiNoEscape.same) (by kernel_rfl)]
 rw [Lib.run_noEscape]
 simp only [Result.andThen]
 rw [Oper.upon_value]
 go_wp2
 rw [Lib.run_from_unsafe w ⟨b, 0, none⟩ Tryz.underlying149 Tryz.underlying65 hj hsh liesR]
 simp only [Result.andThen]
 rw [Oper.upon_value]
 go_wp2
 go_end0
 exact ⟨rfl, rfl⟩
theorem grown_set (W : World) (b j : Nat) (v : Value) : W.grownBy (W.setCell ⟨b, j, none⟩ v) (some b) :=
 ⟨rfl, rfl, rfl, by simp [World.setCell], fun i _ hne => Below.heap_setCell W ⟨b, j, none⟩ v i (fun e => hne (by rw [e]))⟩
def RB (B b : Nat) (l : List UInt8) (w : World) : Prop :=
 B ≤ b ∧ ∃ p v z, (p = .pointer none ∨ p = .pointer (some ⟨b, 0, none⟩)) ∧ w.heap[b]? = some (.cells #[p, v, z] 70 (0, 0)) ∧ w.ownsRowF B 5 1 v l.length (Lib.byteCells l) ∧ v.ownBlock ≠ some b
theorem below_set {B b : Nat} {w : World} (hB : B ≤ b) (j : Nat) (u : Value) : Below B w (w.setCell ⟨b, j, none⟩ u) := (Below.refl B w).setCell (p := ⟨b, j, none⟩) hB u
theorem rcopy_any (B b : Nat) (l : List UInt8) (w : World) (h : RB B b l w) :
  Calls Tryz.prog 78 #[.pointer (some ⟨b, 0, none⟩)] w fun e w' => e = .returned (.tuple #[]) ∧ (∃ v z, w'.heap[b]? = some (.cells #[.pointer (some ⟨b, 0, none⟩), v, z] 70 (0, 0)) ∧ w'.ownsRowF B 5 1 v l.length (Lib.byteCells l) ∧ v.ownBlock ≠ some b) ∧ Below B w w' := by
 obtain ⟨hB, p, v, z, hp, hb, hown, hne⟩ := h
 rcases hp with rfl | rfl
 ·
  refine (rcopy_fresh b w (by rw [Lib.cell_of_heap hb]; rfl) (by simp [World.shape?, hb]) (Lib.frozen_of_heap hb 0)).mono ?_
  rintro e w' ⟨rfl, rfl⟩
  refine ⟨rfl, ⟨v, z, ?_, ?_, hne⟩, below_set hB 0 _⟩
  ·
   have := blk_set hb 0 (.pointer (some ⟨b, 0, none⟩))
   rw [this]
   rfl
  ·
   have hg : w.grownBy (w.setCell ⟨b, 0, none⟩ (.pointer (some ⟨b, 0, none⟩))) (some b) := grown_set _ _ _ _
   refine hown.kept hg ?_
   cases hv : v.ownBlock with
   | none => exact .inl rfl
   | some k => exact .inr (by rw [← hv]; exact hne)
 ·
  refine (rcopy_used b w (by rw [Lib.cell_of_heap hb]; rfl)).mono ?_
  rintro e w' ⟨rfl, rfl⟩
  exact ⟨rfl, ⟨v, z, hb, hown, hne⟩, Below.refl _ _⟩
set_option maxHeartbeats 1000000 in
set_option maxRecDepth 100000 in
theorem rwrite_any (B b : Nat) (l : List UInt8) (r : Int) (hr0 : -2147483648 ≤ r) (hr1 : r ≤ 2147483647) (w : World) (h : RB B b l w) (hlen : l.length + 4 ≤ 140737488355328) (hBw : B ≤ w.heap.size) :
  Calls Tryz.prog 96 #[.pointer (some ⟨b, 0, none⟩), .int .i32 r] w fun e w' => (∃ x y, e = .returned (.tuple #[x, y])) ∧ RB B b (l ++ Lib.encodeRune r) w' ∧ Below B w w' := by
 have hk4 := Lib.runeCells_le r
 have hB := h.1
 go_enter Tryz.func96, Tryz.ntmps96
 go_wp2_with (go_at_call 78; refine (rcopy_any B b l _ h).mono ?_)
 rintro e w1 ⟨rfl, ⟨v, z, hbk, hown, hne⟩, hb1⟩
 obtain ⟨ao, cap, rfl⟩ : ∃ ao cap, v = .slice ao l.length cap := by
  rcases hown.2 with ⟨hv, h0⟩ | ⟨g, cap, cur, fz, hv, _⟩
  · exact ⟨none, 0, by rw [hv, h0]⟩
  · exact ⟨_, _, hv⟩
 have c0 : w1.cell? ⟨b, 0, none⟩ = some (.pointer (some ⟨b, 0, none⟩)) := by rw [Lib.cell_of_heap hbk]; rfl
 have c1 : w1.cell? ⟨b, 1, none⟩ = some (.slice ao l.length cap) := by rw [Lib.cell_of_heap hbk]; rfl
 go_wp2_with (go_at_call 129; refine (Tryz.utf8_AppendRune_row B _ l.length (Lib.byteCells l) r hr0 hr1 _ hown (by omega) (by have := hb1.size; omega)).mono ?_)
 rintro e w2 ⟨v', rfl, hown', o, hgrow⟩
 have hlt : b < w1.heap.size := blk_lt hbk
 have hb2 : w2.heap[b]? = some (.cells #[.pointer (some ⟨b, 0, none⟩), .slice ao l.length cap, z] 70 (0, 0)) := by
  rw [hgrow.block b (by simp; omega) (fun e => hne e.symm), Lib.alloc_old w1 _ b hlt]
  exact hbk
 have d0 : w2.cell? ⟨b, 0, none⟩ = some (.pointer (some ⟨b, 0, none⟩)) := by rw [Lib.cell_of_heap hb2]; rfl
 have d1 : w2.cell? ⟨b, 1, none⟩ = some (.slice ao l.length cap) := by rw [Lib.cell_of_heap hb2]; rfl
 have f1 : w2.frozen? ⟨b, 1, none⟩ = false := Lib.frozen_of_heap hb2 1
 obtain ⟨g, cap', rfl⟩ : ∃ g cap', v' = .slice (some ⟨g, 0, none⟩) (l.length + (Lib.runeCells r).length) cap' := by
  rcases hown'.2 with ⟨_, h0⟩ | ⟨g, cap', cur, fz, hv, _⟩
  · omega
  · exact ⟨g, cap', hv⟩
 go_wp2
 go_ret2
 refine ⟨⟨_, _, rfl⟩, ?_, ((hb1.alloc (by have := hb1.size; omega) _).grown hgrow (by have := hb1.size; simp; omega) (fun k hk => (hown.lt k hk).1)).setCell (p := ⟨b, 1, none⟩) hB _⟩
 have hne' := Lib.ownBlock_neF hown' hb2 (by decide)
 refine ⟨hB, _, _, z, .inr rfl, blk_set hb2 1 _, ?_, hne'⟩
 have e1 : (l ++ Lib.encodeRune r).length = l.length + (Lib.runeCells r).length := by rw [List.length_append, Lib.runeCells_length]
 rw [e1, Lib.byteCells_append, Lib.byteCells_encodeRune]
 exact hown'.kept (grown_set w2 b 1 _) (.inr hne')
theorem enc_bad (r : Int) (h : Lib.validRune r = false) : Lib.encodeRune r = Lib.encodeRune 65533 := by
 have hz : Lib.encodeRuneZ r = [239, 191, 189] := by
  unfold Lib.encodeRuneZ
  have hv := of_decide_eq_false h
  rw [if_neg (by omega), if_neg (by omega), if_neg (by omega), if_neg (by omega)]
 unfold Lib.encodeRune
 rw [hz]
 rfl
set_option maxHeartbeats 1000000 in
set_option maxRecDepth 100000 in
theorem put_any (B b : Nat) (l : List UInt8) (r : Int) (w : World) (h : RB B b l w) (hlen : l.length + 4 ≤ 140737488355328) (hBw : B ≤ w.heap.size) :
  Calls Tryz.prog 56 #[.pointer (some ⟨b, 0, none⟩), .int .i32 r] w fun e w' => e = .returned (.tuple #[]) ∧ RB B b (l ++ Lib.encodeRune r) w' ∧ Below B w w' := by
 have V := Tryz.utf8_ValidRune r w
 cases hv : Lib.validRune r with
 | true =>
  have hb := of_decide_eq_true hv
  have HW := Lib.hid (rwrite_any B b l r (by omega) (by omega) w h hlen hBw)
  rw [hv] at V
  have HV := Lib.hid V
  clear V hv hb h hlen hBw
  go_enter Tryz.func56, Tryz.ntmps56
  go_wp2_with (first | (go_at_call 63; refine HV.out.mono ?_; rintro e w1 ⟨rfl, rfl⟩) | (go_at_call 96; refine HW.out.mono ?_; rintro e w1 ⟨⟨x, y, rfl⟩, h1, h2⟩; have H1 := Lib.hid h1; have H2 := Lib.hid h2; clear h1 h2))
  go_end0
  exact ⟨rfl, H1.out, H2.out⟩
 | false =>
  have HW := Lib.hid (rwrite_any B b l 65533 (by omega) (by omega) w h hlen hBw)
  rw [enc_bad r hv]
  rw [hv] at V
  have HV := Lib.hid V
  clear V hv h hlen hBw
  go_enter Tryz.func56, Tryz.ntmps56
  go_wp2_with (first | (go_at_call 63; refine HV.out.mono ?_; rintro e w1 ⟨rfl, rfl⟩) | (go_at_call 96; refine HW.out.mono ?_; rintro e w1 ⟨⟨x, y, rfl⟩, h1, h2⟩; have H1 := Lib.hid h1; have H2 := Lib.hid h2; clear h1 h2))
  go_end0
  exact ⟨rfl, H1.out, H2.out⟩
theorem cellsByte : Tryz.prog.cellsOf 5 = 1 := by kernel_rfl
set_option maxHeartbeats 2000000 in
set_option maxRecDepth 100000 in
theorem rstring_some (B b : Nat) (l : List UInt8) (w : World) (h : RB B b l w) (h0 : l ≠ []) :
  Calls Tryz.prog 36 #[.pointer (some ⟨b, 0, none⟩)] w fun e w' => e = .returned (.string ⟨l.toArray⟩) ∧ Below B w w' := by
 obtain ⟨hB, p, v, z, hp, hbk, hown, hne⟩ := h
 have hl0 : l.length ≠ 0 := by simpa using h0
 obtain ⟨g, cap, cur, fz, rfl, hbg, hg, hfz, hnc, hcm, hcs, htake⟩ : ∃ g cap cur fz, v = .slice (some ⟨g, 0, none⟩) l.length cap ∧ B ≤ g ∧ w.heap[g]? = some (.cells cur 5 fz) ∧ fz.2 ≤ l.length * 1 ∧ l.length ≤ cap ∧ cap ≤ maxLen ∧ cur.size = cap * 1 ∧ cur.toList.take (l.length * 1) = Lib.byteCells l := by
  rcases hown.2 with ⟨_, hz⟩ | ⟨g, cap, cur, fz, hv, r⟩
  · exact absurd hz hl0
  · exact ⟨g, cap, cur, fz, hv, r⟩
 have c1 : w.drew.cell? ⟨b, 1, none⟩ = some (.slice (some ⟨g, 0, none⟩) l.length cap) := by
  have : w.drew.heap[b]? = some (.cells #[p, .slice (some ⟨g, 0, none⟩) l.length cap, z] 70 (0, 0)) := hbk
  rw [Lib.cell_of_heap this]; rfl
 have hSD : (Builtin.unsafeSliceData_ #[66] 126 #[.slice (some ⟨g, 0, none⟩) l.length cap]).run Tryz.prog w.drew = .ok (.pointer (some ⟨g, 0, none⟩)) w.drew :=
  Lib.run_unsafeSliceData_row _ _ _ _ _ _ (by omega)
 have hUS : (Builtin.unsafeString_ #[126, 3] 9 #[.pointer (some ⟨g, 0, none⟩), .int .i64 l.length]).run Tryz.prog w.drew = .ok (.string ⟨l.toArray⟩) (w.drew.freeze ⟨g, 0, none⟩ l.length) := by
  refine Lib.run_unsafeString_row w.drew 126 3 9 5 Tryz.underlying126 cellsByte g cur.size (by have hg' : w.drew.heap[g]? = some (.cells cur 5 fz) := hg; simp [World.shape?, hg']) l h0 (by omega) (by unfold maxLen at hcm; omega) ?_
  intro j x hx
  have := hown.cells (g := g) rfl j (.int .u8 x.toNat) (by simp [Lib.byteCells, hx])
  exact this
 go_enter Tryz.func36, Tryz.ntmps36
 go_wp2
 go_region
 all_goals (go_wp2; go_ret; exact ⟨rfl, Lib.below_freeze (Below.drew (Below.refl B w)) (p := ⟨g, 0, none⟩) hbg _⟩)
set_option maxHeartbeats 2000000 in
set_option maxRecDepth 100000 in
theorem rstring_nil (b : Nat) (B : Nat) (p z : Value) (w : World) (hbk : w.heap[b]? = some (.cells #[p, .slice none 0 0, z] 70 (0, 0))) :
  Calls Tryz.prog 36 #[.pointer (some ⟨b, 0, none⟩)] w fun e w' => e = .returned (.string ⟨#[]⟩) ∧ Below B w w' := by
 have hUS : ∀ (W : World) (q : Option Addr), (Builtin.unsafeString_ #[126, 3] 9 #[.pointer q, .int .i64 0]).run Tryz.prog W = .ok (.string .empty) W := fun W q => Lib.run_unsafeString_none W 126 3 9 q
 have c1 : w.drew.cell? ⟨b, 1, none⟩ = some (.slice none 0 0) := by
  have : w.drew.heap[b]? = some (.cells #[p, .slice none 0 0, z] 70 (0, 0)) := hbk
  rw [Lib.cell_of_heap this]; rfl
 have hSD : (Builtin.unsafeSliceData_ #[66] 126 #[.slice none 0 0]).run Tryz.prog w.drew = .ok (.pointer none) w.drew := rfl
 go_enter Tryz.func36, Tryz.ntmps36
 go_wp2
 go_region
 all_goals (go_wp2; go_ret; exact ⟨rfl, Below.drew (Below.refl B w)⟩)
def utf8L (l : List Int) : List UInt8 := l.flatMap Lib.encodeRune
def utf8F (l : List Int) : ByteArray := ⟨(utf8L l).toArray⟩
theorem enc_len (r : Int) : 1 ≤ (Lib.encodeRune r).length ∧ (Lib.encodeRune r).length ≤ 4 := by
 have := Lib.runeCells_le r
 rwa [Lib.runeCells_length] at this
theorem utf8L_len (l : List Int) : l.length ≤ (utf8L l).length ∧ (utf8L l).length ≤ 4 * l.length := by
 induction l with
 | nil => simp [utf8L]
 | cons x l ih =>
  have := enc_len x
  simp only [utf8L, List.flatMap_cons, List.length_append, List.length_cons] at ih ⊢
  omega
theorem utf8L_snoc (l : List Int) (x : Int) : utf8L (l ++ [x]) = utf8L l ++ Lib.encodeRune x := by simp [utf8L]
set_option maxRecDepth 100000 in
set_option maxHeartbeats 2000000 in
theorem Utf8_any (A0 : Option Addr) (c0 : Nat) (l : List Int) (w : World) (hr0 : Kd.C (Kd.int .i32) w A0 l.length l) (hl : l.length ≤ 17592186044416) :
  Calls Tryz.prog 23 #[.slice A0 l.length c0] w fun e w' => e = .returned (.string (utf8F l)) ∧ Below w.heap.size w w' := by
 have HR0 := Lib.hid hr0
 have HL := Lib.hid hl
 clear hr0 hl
 go_enter Tryz.func23, Tryz.ntmps23
 go_wp2
 go_loopw [8] (fun vi wr => ∃ k : Nat, k ≤ l.length ∧ vi = .int .i64 k ∧ Hid (RB w.heap.size w.heap.size (utf8L (l.take k)) wr) ∧ Hid (k = 0 → ∃ p z, wr.heap[w.heap.size]? = some (.cells #[p, .slice none 0 0, z] 70 (0, 0))) ∧ Hid (Below w.heap.size w wr)) (fun vi _ => l.length - (intOf vi).toNat)
 case atStart =>
  have hn : (w.alloc (.cells #[.pointer none, .slice none 0 0, .string ⟨#[]⟩] 70)).heap[w.heap.size]? = some (.cells #[.pointer none, .slice none 0 0, .string ⟨#[]⟩] 70 (0, 0)) := blk_new _ _
  refine ⟨0, by omega, rfl, Lib.hid ⟨Nat.le_refl _, _, _, _, .inl rfl, hn, ?_, by simp [Value.ownBlock]⟩, Lib.hid (fun _ => ⟨_, _, hn⟩), Lib.hid ((Below.refl _ _).alloc (Nat.le_refl _) _)⟩
  exact World.ownsRowF_nil _ _ _ _
 case round =>
  obtain ⟨k, hk, rfl, HRB, HZ, HB⟩ := hrel
  by_cases k5 : k = l.length
  ·
   subst k5
   by_cases h0 : l = []
   ·
    subst h0
    obtain ⟨p, z, hz⟩ := HZ.out rfl
    have HS := Lib.hid (rstring_nil w.heap.size w.heap.size p z wr hz)
    clear hz
    go_wp2_with (first | (go_at_call 36; refine HS.out.mono ?_; rintro e w1 ⟨rfl, h1⟩; have H1 := Lib.hid h1; clear h1))
    go_ret
    exact ⟨rfl, HB.out.trans H1.out⟩
   ·
    have hne : utf8L l ≠ [] := by
     intro e
     have := (utf8L_len l).1
     rw [e] at this
     cases l with
     | nil => exact h0 rfl
     | cons x l => simp at this
    have HS := Lib.hid (rstring_some w.heap.size w.heap.size (utf8L l) wr (by have := HRB.out; rwa [List.take_length] at this) hne)
    clear hne h0
    go_wp2_with (first | (go_at_call 36; refine HS.out.mono ?_; rintro e w1 ⟨rfl, h1⟩; have H1 := Lib.hid h1; clear h1))
    go_ret
    exact ⟨rfl, HB.out.trans H1.out⟩
  ·
   obtain ⟨c, hc⟩ : ∃ c, rd l (k : Int) = c := ⟨_, rfl⟩
   obtain ⟨ad, e, hx⟩ := Kd.at_int HR0.out (k : Int) (by omega) (by omega)
   cases e
   replace hx := (HB.out.cell (World.block_lt_of_cell? w _ hx)).trans hx
   rw [hc, Int.toNat_natCast] at hx
   have ht : l.take (k + 1) = l.take k ++ [c] := by
    rw [List.take_succ_eq_append_getElem (by omega), ← hc]
    simp [rd, List.getD_eq_getElem?_getD, show k < l.length by omega]
   have HT := Lib.hid ht
   have HP := Lib.hid (put_any w.heap.size w.heap.size (utf8L (l.take k)) c wr HRB.out (by have := (utf8L_len (l.take k)).2; rw [List.length_take] at this; have := HL.out; omega) HB.out.size)
   have K5 := Lib.hid k5
   have HK := Lib.hid hk
   have e1 : (k : Int) < (l.length : Int) := by omega
   have hk64 : (k : Int) ≤ 17592186044416 := by have := HL.out; omega
   clear hc k5 hk ht
   go_wp2_with (first | (go_at_call 56; refine HP.out.mono ?_; rintro e w1 ⟨rfl, h1, h2⟩; have H1 := Lib.hid h1; have H2 := Lib.hid h2; clear h1 h2))
   go_roundw
   case measure =>
    have h1 := HK.out
    have h2 := K5.out
    simp [intOf]
    omega
   case rel =>
    have h1 := HK.out
    have h2 := K5.out
    refine ⟨k + 1, by omega, by go_num, Lib.hid ?_, Lib.hid (fun h => by omega), Lib.hid (HB.out.trans H2.out)⟩
    rw [HT.out, utf8L_snoc]
    exact H1.out
theorem splitN_calls (s sep : ByteArray) (a2 m : Int) (w : World) (hs : s.size < 4294967281) (hm : w.cell? ⟨3, 0, none⟩ = some (.int .i64 m)) (h1 : 1 ≤ sep.size) (h2 : 1 ≤ a2) (h3 : a2 ≤ 4096) :
  Calls Tryz.prog 110 #[.string s, .string sep, .int .i64 a2] w fun e w' => ∃ v, e = .returned v ∧ Kd.R Kd.string 9 w' w.heap.size (fun _ => True) v (Lib.splitB sep 0 (min a2.toNat (s.size + 1) - 1) s) ∧ Below w.heap.size w w' := by
 obtain ⟨n, rfl⟩ := Int.eq_ofNat_of_zero_le (show 0 ≤ a2 by omega)
 refine (Tryz.strings_SplitN s sep n m w hs hm h1 (by omega) (by omega)).mono ?_
 rintro e w' ⟨rfl, rfl⟩
 refine ⟨_, rfl, ?_, (Below.refl _ _).alloc (Nat.le_refl _) _⟩
 have hl := Lib.splitB_length_le sep 0 (min n (s.size + 1) - 1) s
 have e0 : (n : Int).toNat = n := Int.toNat_natCast n
 rw [e0]
 revert hl
 generalize Lib.splitB sep 0 (min n (s.size + 1) - 1) s = l
 intro hl
 have hlN : l.length ≤ min n (s.size + 1) := by omega
 refine Kd.R_of_own ⟨by simp [encs], .inr ⟨_, _, _, rfl, Nat.le_refl _, Array.getElem?_push_size, hlN, by unfold maxLen; omega, ?_, ?_⟩⟩ (fun _ _ => trivial)
 · rw [Lib.cellsOf_size hlN, Nat.mul_one]
 ·
  rw [Nat.mul_one]
  simp [Lib.cellsOf, encs]
end Go.Proofs.YtigcbajcifhinaaGreatDoor.Txt
namespace Go.Proofs.YtigcbajcifhinaaGreatDoor.Txt
open Go.RowKit Go.Proofs.YtigcbajcifhinaaGreatDoorW.PrintWords
def BB (B b : Nat) (l : List UInt8) (w : World) : Prop := Lib.IsBuilderF 68 5 B b (Lib.byteCells l) w
theorem bb_fresh (w : World) : BB w.heap.size w.heap.size [] (w.alloc (.cells #[.pointer none, .slice none 0 0] 68)) := by
 rcases Lib.fresh_isBuilder 68 5 w with h | h
 · exact .inl (Lib.BuilderAtF.of h)
 · exact .inr (Lib.BuilderAtF.of h)
theorem bcell (x : UInt8) : [Value.int .u8 (x.toNat : Int)] = Lib.byteCells [x] := rfl
theorem bwrite (B b : Nat) (l : List UInt8) (x : UInt8) (c : Int) (hx : (x.toNat : Int) = c) (w : World) (h : BB B b l w) (hlen : l.length + 1 ≤ 140737488355328) (hBw : B ≤ w.heap.size) :
  Calls Tryz.prog 122 #[.pointer (some ⟨b, 0, none⟩), .int .u8 c] w fun e w' => e = .returned .nilIface ∧ BB B b (l ++ [x]) w' ∧ Below B w w' := by
 subst hx
 refine (Tryz.Builder_WriteByte_k B b (Lib.byteCells l) x.toNat w h (by rw [Lib.byteCells_length]; exact hlen) hBw).mono ?_
 rintro e w' ⟨rfl, h1, h2, _⟩
 refine ⟨rfl, .inr ?_, h2⟩
 rw [Lib.byteCells_append, ← bcell]
 exact h1
theorem bstring (B b : Nat) (l : List UInt8) (w : World) (h : BB B b l w) (hBw : B ≤ w.heap.size) :
  Calls Tryz.prog 36 #[.pointer (some ⟨b, 0, none⟩)] w fun e w' => e = .returned (.string ⟨l.toArray⟩) ∧ Below B w w' :=
 (Tryz.Builder_String_any_k B b l w h hBw).mono fun e w' ⟨he, _, hb, _⟩ => ⟨he, hb⟩
theorem map_take_succ (f : UInt8 → UInt8) (s : ByteArray) (k : Nat) (h : k < s.size) : (s.data.toList.take (k + 1)).map f = (s.data.toList.take k).map f ++ [f (s.data.toList[k]'(by rw [data_length]; exact h))] := by
 rw [List.take_succ_eq_append_getElem (by rw [data_length]; exact h), List.map_append]
 rfl
def greatB (c : UInt8) : UInt8 := if 97 ≤ c.toNat ∧ c.toNat ≤ 122 then c - 32 else c
def greatF (s : ByteArray) : ByteArray := ⟨(s.data.toList.map greatB).toArray⟩
theorem greatB_yes (c : UInt8) (h0 : 97 ≤ c.toNat) (h1 : c.toNat ≤ 122) : ((greatB c).toNat : Int) = (c.toNat : Int) - 32 := by
 unfold greatB
 rw [if_pos ⟨h0, h1⟩]
 have : (c - 32).toNat = c.toNat - 32 := by
  rw [UInt8.toNat_sub_of_le]; rfl; exact (UInt8.le_iff_toNat_le.2 (by have : (32 : UInt8).toNat = 32 := rfl; omega))
 rw [this]
 omega
theorem greatB_no (c : UInt8) (h : ¬ (97 ≤ c.toNat ∧ c.toNat ≤ 122)) : ((greatB c).toNat : Int) = (c.toNat : Int) := by
 unfold greatB
 rw [if_neg h]
set_option maxRecDepth 100000 in
set_option maxHeartbeats 2000000 in
theorem great_any (s : ByteArray) (w : World) (hs : s.size ≤ 17592186044416) :
  Calls Tryz.prog 90 #[.string s] w fun e w' => e = .returned (.string (greatF s)) ∧ Below w.heap.size w w' := by
 have HL := Lib.hid hs
 clear hs
 go_enter Tryz.func90, Tryz.ntmps90
 go_wp2
 go_loopw [8] (fun vi wr => ∃ k : Nat, k ≤ s.size ∧ vi = .int .i64 k ∧ Hid (BB w.heap.size w.heap.size ((s.data.toList.take k).map greatB) wr) ∧ Hid (Below w.heap.size w wr)) (fun vi _ => s.size - (intOf vi).toNat)
 case atStart => exact ⟨0, by omega, rfl, Lib.hid (bb_fresh w), Lib.hid ((Below.refl _ _).alloc (Nat.le_refl _) _)⟩
 case round =>
  obtain ⟨k, hk, rfl, HBB, HB⟩ := hrel
  by_cases k5 : k = s.size
  ·
   subst k5
   have HS := Lib.hid (bstring w.heap.size w.heap.size (s.data.toList.map greatB) wr (by have := HBB.out; rwa [List.take_of_length_le (by rw [data_length]; exact Nat.le_refl _)] at this) HB.out.size)
   go_wp2_with (first | (go_at_call 36; refine HS.out.mono ?_; rintro e w1 ⟨rfl, h1⟩; have H1 := Lib.hid h1; clear h1))
   go_ret
   exact ⟨rfl, HB.out.trans H1.out⟩
  ·
   have hlt : k < s.size := by omega
   obtain ⟨c, hc⟩ : ∃ c, s.data.toList[k]'(by rw [data_length]; exact hlt) = c := ⟨_, rfl⟩
   have hb : ∀ h : k < s.size, ((s[k]'h).toNat : Int) = (c.toNat : Int) := fun h => by rw [← hc]; rfl
   have HT := Lib.hid (map_take_succ greatB s k hlt)
   have HC := Lib.hid hc
   have K5 := Lib.hid k5
   have HK := Lib.hid hk
   have e1 : (k : Int) < (s.size : Int) := by omega
   have hk64 : (k : Int) ≤ 17592186044416 := by have := HL.out; omega
   have hlen : ((s.data.toList.take k).map greatB).length + 1 ≤ 140737488355328 := by rw [List.length_map, List.length_take]; have := HL.out; omega
   have hc255 : (c.toNat : Int) < 256 := by have := c.toNat_lt; omega
   by_cases h1 : (97 : Int) ≤ (c.toNat : Int)
   ·
    by_cases h2 : (c.toNat : Int) ≤ 122
    ·
     have HW := Lib.hid (fun x hx => bwrite w.heap.size w.heap.size _ (greatB c) x hx wr HBB.out hlen HB.out.size)
     have HY := Lib.hid (greatB_yes c (by omega) (by omega))
     clear hlen hc k5 hk
     go_wp2_with (first | (go_at_call 122; refine (HW.out _ ?hx).mono ?_; (case hx => rw [HY.out]; try (simp [IntKind.wrap, IntKind.bits, IntKind.signed]; omega)); rintro e w1 ⟨rfl, h1, h2⟩; have H1 := Lib.hid h1; have H2 := Lib.hid h2; clear h1 h2))
     go_roundw
     case measure => have h1 := HK.out; have h2 := K5.out; simp [intOf]; omega
     case rel =>
      have h1 := HK.out
      have h2 := K5.out
      refine ⟨k + 1, by omega, by go_num, Lib.hid ?_, Lib.hid (HB.out.trans H2.out)⟩
      rw [HT.out, HC.out]
      exact H1.out
    ·
     have HW := Lib.hid (fun x hx => bwrite w.heap.size w.heap.size _ (greatB c) x hx wr HBB.out hlen HB.out.size)
     have HY := Lib.hid (greatB_no c (by omega))
     have h2' : decide ((c.toNat : Int) ≤ 122) = false := decide_eq_false h2
     clear hlen hc k5 hk
     go_wp2_with (first | (go_at_call 122; refine (HW.out _ HY.out).mono ?_; rintro e w1 ⟨rfl, h1, h2⟩; have H1 := Lib.hid h1; have H2 := Lib.hid h2; clear h1 h2))
     go_roundw
     case measure => have h1 := HK.out; have h2 := K5.out; simp [intOf]; omega
     case rel =>
      have h1 := HK.out
      have h2 := K5.out
      refine ⟨k + 1, by omega, by go_num, Lib.hid ?_, Lib.hid (HB.out.trans H2.out)⟩
      rw [HT.out, HC.out]
      exact H1.out
   ·
    have HW := Lib.hid (fun x hx => bwrite w.heap.size w.heap.size _ (greatB c) x hx wr HBB.out hlen HB.out.size)
    have HY := Lib.hid (greatB_no c (by omega))
    have h1' : decide ((97 : Int) ≤ (c.toNat : Int)) = false := decide_eq_false h1
    clear hlen hc k5 hk
    go_wp2_with (first | (go_at_call 122; refine (HW.out _ HY.out).mono ?_; rintro e w1 ⟨rfl, h1, h2⟩; have H1 := Lib.hid h1; have H2 := Lib.hid h2; clear h1 h2))
    go_roundw
    case measure => have h1 := HK.out; have h2 := K5.out; simp [intOf]; omega
    case rel =>
     have h1 := HK.out
     have h2 := K5.out
     refine ⟨k + 1, by omega, by go_num, Lib.hid ?_, Lib.hid (HB.out.trans H2.out)⟩
     rw [HT.out, HC.out]
     exact H1.out
def smallB (c : UInt8) : UInt8 := if 65 ≤ c.toNat ∧ c.toNat ≤ 90 then c + 32 else c
def smallF (s : ByteArray) : ByteArray := ⟨(s.data.toList.map smallB).toArray⟩
theorem smallB_yes (c : UInt8) (h0 : 65 ≤ c.toNat) (h1 : c.toNat ≤ 90) : ((smallB c).toNat : Int) = (c.toNat : Int) + 32 := by
 unfold smallB
 rw [if_pos ⟨h0, h1⟩]
 have : (c + 32).toNat = c.toNat + 32 := by
  rw [UInt8.toNat_add, show (32 : UInt8).toNat = 32 from rfl]; have := c.toNat_lt; omega
 rw [this]
 omega
theorem smallB_no (c : UInt8) (h : ¬ (65 ≤ c.toNat ∧ c.toNat ≤ 90)) : ((smallB c).toNat : Int) = (c.toNat : Int) := by
 unfold smallB
 rw [if_neg h]
set_option maxRecDepth 100000 in
set_option maxHeartbeats 2000000 in
theorem small_any (s : ByteArray) (w : World) (hs : s.size ≤ 17592186044416) :
  Calls Tryz.prog 117 #[.string s] w fun e w' => e = .returned (.string (smallF s)) ∧ Below w.heap.size w w' := by
 have HL := Lib.hid hs
 clear hs
 go_enter Tryz.func117, Tryz.ntmps117
 go_wp2
 go_loopw [8] (fun vi wr => ∃ k : Nat, k ≤ s.size ∧ vi = .int .i64 k ∧ Hid (BB w.heap.size w.heap.size ((s.data.toList.take k).map smallB) wr) ∧ Hid (Below w.heap.size w wr)) (fun vi _ => s.size - (intOf vi).toNat)
 case atStart => exact ⟨0, by omega, rfl, Lib.hid (bb_fresh w), Lib.hid ((Below.refl _ _).alloc (Nat.le_refl _) _)⟩
 case round =>
  obtain ⟨k, hk, rfl, HBB, HB⟩ := hrel
  by_cases k5 : k = s.size
  ·
   subst k5
   have HS := Lib.hid (bstring w.heap.size w.heap.size (s.data.toList.map smallB) wr (by have := HBB.out; rwa [List.take_of_length_le (by rw [data_length]; exact Nat.le_refl _)] at this) HB.out.size)
   go_wp2_with (first | (go_at_call 36; refine HS.out.mono ?_; rintro e w1 ⟨rfl, h1⟩; have H1 := Lib.hid h1; clear h1))
   go_ret
   exact ⟨rfl, HB.out.trans H1.out⟩
  ·
   have hlt : k < s.size := by omega
   obtain ⟨c, hc⟩ : ∃ c, s.data.toList[k]'(by rw [data_length]; exact hlt) = c := ⟨_, rfl⟩
   have hb : ∀ h : k < s.size, ((s[k]'h).toNat : Int) = (c.toNat : Int) := fun h => by rw [← hc]; rfl
   have HT := Lib.hid (map_take_succ smallB s k hlt)
   have HC := Lib.hid hc
   have K5 := Lib.hid k5
   have HK := Lib.hid hk
   have e1 : (k : Int) < (s.size : Int) := by omega
   have hk64 : (k : Int) ≤ 17592186044416 := by have := HL.out; omega
   have hlen : ((s.data.toList.take k).map smallB).length + 1 ≤ 140737488355328 := by rw [List.length_map, List.length_take]; have := HL.out; omega
   have hc255 : (c.toNat : Int) < 256 := by have := c.toNat_lt; omega
   by_cases h1 : (65 : Int) ≤ (c.toNat : Int)
   ·
    by_cases h2 : (c.toNat : Int) ≤ 90
    ·
     have HW := Lib.hid (fun x hx => bwrite w.heap.size w.heap.size _ (smallB c) x hx wr HBB.out hlen HB.out.size)
     have HY := Lib.hid (smallB_yes c (by omega) (by omega))
     clear hlen hc k5 hk
     go_wp2_with (first | (go_at_call 122; refine (HW.out _ ?hx).mono ?_; (case hx => rw [HY.out]; try (simp [IntKind.wrap, IntKind.bits, IntKind.signed]; omega)); rintro e w1 ⟨rfl, h1, h2⟩; have H1 := Lib.hid h1; have H2 := Lib.hid h2; clear h1 h2))
     go_roundw
     case measure => have h1 := HK.out; have h2 := K5.out; simp [intOf]; omega
     case rel =>
      have h1 := HK.out
      have h2 := K5.out
      refine ⟨k + 1, by omega, by go_num, Lib.hid ?_, Lib.hid (HB.out.trans H2.out)⟩
      rw [HT.out, HC.out]
      exact H1.out
    ·
     have HW := Lib.hid (fun x hx => bwrite w.heap.size w.heap.size _ (smallB c) x hx wr HBB.out hlen HB.out.size)
     have HY := Lib.hid (smallB_no c (by omega))
     have h2' : decide ((c.toNat : Int) ≤ 90) = false := decide_eq_false h2
     clear hlen hc k5 hk
     go_wp2_with (first | (go_at_call 122; refine (HW.out _ HY.out).mono ?_; rintro e w1 ⟨rfl, h1, h2⟩; have H1 := Lib.hid h1; have H2 := Lib.hid h2; clear h1 h2))
     go_roundw
     case measure => have h1 := HK.out; have h2 := K5.out; simp [intOf]; omega
     case rel =>
      have h1 := HK.out
      have h2 := K5.out
      refine ⟨k + 1, by omega, by go_num, Lib.hid ?_, Lib.hid (HB.out.trans H2.out)⟩
      rw [HT.out, HC.out]
      exact H1.out
   ·
    have HW := Lib.hid (fun x hx => bwrite w.heap.size w.heap.size _ (smallB c) x hx wr HBB.out hlen HB.out.size)
    have HY := Lib.hid (smallB_no c (by omega))
    have h1' : decide ((65 : Int) ≤ (c.toNat : Int)) = false := decide_eq_false h1
    clear hlen hc k5 hk
    go_wp2_with (first | (go_at_call 122; refine (HW.out _ HY.out).mono ?_; rintro e w1 ⟨rfl, h1, h2⟩; have H1 := Lib.hid h1; have H2 := Lib.hid h2; clear h1 h2))
    go_roundw
    case measure => have h1 := HK.out; have h2 := K5.out; simp [intOf]; omega
    case rel =>
     have h1 := HK.out
     have h2 := K5.out
     refine ⟨k + 1, by omega, by go_num, Lib.hid ?_, Lib.hid (HB.out.trans H2.out)⟩
     rw [HT.out, HC.out]
     exact H1.out
def hexL : List UInt8 := [48, 49, 50, 51, 52, 53, 54, 55, 56, 57, 65, 66, 67, 68, 69, 70]
def hexD (c : UInt8) : Int := if 48 ≤ c.toNat ∧ c.toNat ≤ 57 then (c.toNat : Int) - 48 else if 65 ≤ c.toNat ∧ c.toNat ≤ 70 then (c.toNat : Int) - 55 else if 97 ≤ c.toNat ∧ c.toNat ≤ 102 then (c.toNat : Int) - 87 else -1
def hexI (c : Nat) : Int := if 48 ≤ c ∧ c ≤ 57 then (c : Int) - 48 else if 65 ≤ c ∧ c ≤ 70 then (c : Int) - 55 else if 97 ≤ c ∧ c ≤ 102 then (c : Int) - 87 else -1
theorem hex_low : ∀ c : Fin 256, (c.val < 97 ∨ 102 < c.val) → Lib.indexByte hexL c.val.toUInt8 = hexI c.val := by decide +kernel
theorem hex_high : ∀ c : Fin 256, 97 ≤ c.val → c.val ≤ 102 → Lib.indexByte hexL (c.val - 32).toUInt8 = hexI c.val := by decide +kernel
theorem hexD_range (c : UInt8) : -1 ≤ hexD c ∧ hexD c ≤ 15 := by
 unfold hexD
 have := c.toNat_lt
 split
 · omega
 ·
  split
  · omega
  · split <;> omega
set_option maxRecDepth 100000 in
set_option maxHeartbeats 1000000 in
theorem digit172 (c : UInt8) (w : World) : Calls Tryz.prog 172 #[.int .u8 (c.toNat : Int)] w fun e w' => e = .returned (.int .i64 (hexD c)) ∧ w' = w := by
 have hlt := c.toNat_lt
 by_cases h1 : 97 ≤ c.toNat
 ·
  by_cases h2 : c.toNat ≤ 102
  ·
   have HH := hex_high ⟨c.toNat, hlt⟩ h1 h2
   have HI := Tryz.strings_IndexByte ⟨#[48, 49, 50, 51, 52, 53, 54, 55, 56, 57, 65, 66, 67, 68, 69, 70]⟩ ((c.toNat : Int) - 32) w
   have e0 : ((c.toNat : Int) - 32).toNat = c.toNat - 32 := by omega
   rw [e0] at HI
   have HI2 : Calls Tryz.prog 40 #[.string ⟨#[48, 49, 50, 51, 52, 53, 54, 55, 56, 57, 65, 66, 67, 68, 69, 70]⟩, .int .u8 ((c.toNat : Int) - 32)] w fun e w' => e = .returned (.int .i64 (hexD c)) ∧ w' = w := by
    refine HI.mono ?_
    rintro e w' ⟨rfl, rfl⟩
    exact ⟨by rw [show hexD c = hexI c.toNat from rfl, ← HH]; rfl, rfl⟩
   have HJ := Lib.hid (fun (d : Int) (hd : d = (c.toNat : Int) - 32) => hd ▸ HI2)
   have h1' : (97 : Int) ≤ (c.toNat : Int) := by omega
   have h2' : (c.toNat : Int) ≤ 102 := by omega
   clear HI HI2 HH e0 h1 h2
   go_enter Tryz.func172, Tryz.ntmps172
   go_wp2_with (go_at_call 40; refine (HJ.out _ ?hx).mono ?_; (case hx => first | rfl | (simp [IntKind.wrap, IntKind.bits, IntKind.signed]; omega)); rintro e w1 ⟨rfl, rfl⟩)
   go_ret
   exact ⟨rfl, rfl⟩
  ·
   have HH := hex_low ⟨c.toNat, hlt⟩ (.inr (by simp only; omega))
   have HI := Tryz.strings_IndexByte ⟨#[48, 49, 50, 51, 52, 53, 54, 55, 56, 57, 65, 66, 67, 68, 69, 70]⟩ (c.toNat : Int) w
   have HI2 : Calls Tryz.prog 40 #[.string ⟨#[48, 49, 50, 51, 52, 53, 54, 55, 56, 57, 65, 66, 67, 68, 69, 70]⟩, .int .u8 (c.toNat : Int)] w fun e w' => e = .returned (.int .i64 (hexD c)) ∧ w' = w := by
    refine HI.mono ?_
    rintro e w' ⟨rfl, rfl⟩
    exact ⟨by rw [show hexD c = hexI c.toNat from rfl, ← HH]; rfl, rfl⟩
   have HJ := Lib.hid HI2
   have h1' : (97 : Int) ≤ (c.toNat : Int) := by omega
   have h2' : decide ((c.toNat : Int) ≤ 102) = false := decide_eq_false (by omega)
   clear HI HI2 HH h1 h2
   go_enter Tryz.func172, Tryz.ntmps172
   go_wp2_with (go_at_call 40; refine HJ.out.mono ?_; rintro e w1 ⟨rfl, rfl⟩)
   go_ret
   exact ⟨rfl, rfl⟩
 ·
  have HH := hex_low ⟨c.toNat, hlt⟩ (.inl (by simp only; omega))
  have HI := Tryz.strings_IndexByte ⟨#[48, 49, 50, 51, 52, 53, 54, 55, 56, 57, 65, 66, 67, 68, 69, 70]⟩ (c.toNat : Int) w
  have HI2 : Calls Tryz.prog 40 #[.string ⟨#[48, 49, 50, 51, 52, 53, 54, 55, 56, 57, 65, 66, 67, 68, 69, 70]⟩, .int .u8 (c.toNat : Int)] w fun e w' => e = .returned (.int .i64 (hexD c)) ∧ w' = w := by
   refine HI.mono ?_
   rintro e w' ⟨rfl, rfl⟩
   exact ⟨by rw [show hexD c = hexI c.toNat from rfl, ← HH]; rfl, rfl⟩
  have HJ := Lib.hid HI2
  have h1' : decide ((97 : Int) ≤ (c.toNat : Int)) = false := decide_eq_false (by omega)
  clear HI HI2 HH h1
  go_enter Tryz.func172, Tryz.ntmps172
  go_wp2_with (go_at_call 40; refine HJ.out.mono ?_; rintro e w1 ⟨rfl, rfl⟩)
  go_ret
  exact ⟨rfl, rfl⟩
set_option maxRecDepth 100000 in
set_option maxHeartbeats 1000000 in
theorem digit160 (c : UInt8) (w : World) : Calls Tryz.prog 160 #[.int .u8 (c.toNat : Int)] w fun e w' => e = .returned (.int .i64 (hexD c)) ∧ w' = w := by
 have hlt := c.toNat_lt
 by_cases h1 : 97 ≤ c.toNat
 ·
  by_cases h2 : c.toNat ≤ 102
  ·
   have HH := hex_high ⟨c.toNat, hlt⟩ h1 h2
   have HI := Tryz.strings_IndexByte ⟨#[48, 49, 50, 51, 52, 53, 54, 55, 56, 57, 65, 66, 67, 68, 69, 70]⟩ ((c.toNat : Int) - 32) w
   have e0 : ((c.toNat : Int) - 32).toNat = c.toNat - 32 := by omega
   rw [e0] at HI
   have HI2 : Calls Tryz.prog 40 #[.string ⟨#[48, 49, 50, 51, 52, 53, 54, 55, 56, 57, 65, 66, 67, 68, 69, 70]⟩, .int .u8 ((c.toNat : Int) - 32)] w fun e w' => e = .returned (.int .i64 (hexD c)) ∧ w' = w := by
    refine HI.mono ?_
    rintro e w' ⟨rfl, rfl⟩
    exact ⟨by rw [show hexD c = hexI c.toNat from rfl, ← HH]; rfl, rfl⟩
   have HJ := Lib.hid (fun (d : Int) (hd : d = (c.toNat : Int) - 32) => hd ▸ HI2)
   have h1' : (97 : Int) ≤ (c.toNat : Int) := by omega
   have h2' : (c.toNat : Int) ≤ 102 := by omega
   clear HI HI2 HH e0 h1 h2
   go_enter Tryz.func160, Tryz.ntmps160
   go_wp2_with (go_at_call 40; refine (HJ.out _ ?hx).mono ?_; (case hx => first | rfl | (simp [IntKind.wrap, IntKind.bits, IntKind.signed]; omega)); rintro e w1 ⟨rfl, rfl⟩)
   go_ret
   exact ⟨rfl, rfl⟩
  ·
   have HH := hex_low ⟨c.toNat, hlt⟩ (.inr (by simp only; omega))
   have HI := Tryz.strings_IndexByte ⟨#[48, 49, 50, 51, 52, 53, 54, 55, 56, 57, 65, 66, 67, 68, 69, 70]⟩ (c.toNat : Int) w
   have HI2 : Calls Tryz.prog 40 #[.string ⟨#[48, 49, 50, 51, 52, 53, 54, 55, 56, 57, 65, 66, 67, 68, 69, 70]⟩, .int .u8 (c.toNat : Int)] w fun e w' => e = .returned (.int .i64 (hexD c)) ∧ w' = w := by
    refine HI.mono ?_
    rintro e w' ⟨rfl, rfl⟩
    exact ⟨by rw [show hexD c = hexI c.toNat from rfl, ← HH]; rfl, rfl⟩
   have HJ := Lib.hid HI2
   have h1' : (97 : Int) ≤ (c.toNat : Int) := by omega
   have h2' : decide ((c.toNat : Int) ≤ 102) = false := decide_eq_false (by omega)
   clear HI HI2 HH h1 h2
   go_enter Tryz.func160, Tryz.ntmps160
   go_wp2_with (go_at_call 40; refine HJ.out.mono ?_; rintro e w1 ⟨rfl, rfl⟩)
   go_ret
   exact ⟨rfl, rfl⟩
 ·
  have HH := hex_low ⟨c.toNat, hlt⟩ (.inl (by simp only; omega))
  have HI := Tryz.strings_IndexByte ⟨#[48, 49, 50, 51, 52, 53, 54, 55, 56, 57, 65, 66, 67, 68, 69, 70]⟩ (c.toNat : Int) w
  have HI2 : Calls Tryz.prog 40 #[.string ⟨#[48, 49, 50, 51, 52, 53, 54, 55, 56, 57, 65, 66, 67, 68, 69, 70]⟩, .int .u8 (c.toNat : Int)] w fun e w' => e = .returned (.int .i64 (hexD c)) ∧ w' = w := by
   refine HI.mono ?_
   rintro e w' ⟨rfl, rfl⟩
   exact ⟨by rw [show hexD c = hexI c.toNat from rfl, ← HH]; rfl, rfl⟩
  have HJ := Lib.hid HI2
  have h1' : decide ((97 : Int) ≤ (c.toNat : Int)) = false := decide_eq_false (by omega)
  clear HI HI2 HH h1
  go_enter Tryz.func160, Tryz.ntmps160
  go_wp2_with (go_at_call 40; refine HJ.out.mono ?_; rintro e w1 ⟨rfl, rfl⟩)
  go_ret
  exact ⟨rfl, rfl⟩
end Go.Proofs.YtigcbajcifhinaaGreatDoor.Txt
namespace Go.Proofs.YtigcbajcifhinaaGreatDoor.Txt
open Go.RowKit Go.Proofs.YtigcbajcifhinaaGreatDoorW.PrintWords
section
variable {P : Program} {a : Act} {w : World} {Q : Exit → Act → World → Prop}
theorem scope_label {c R : Code} (l : Nat) (J : Act → World → Prop) (μ : Act → World → Nat) (hf : findLabel c l = some (Code.skip.seq R))
  (pass : ∀ a w, J a w → R.wp P (Exit.jump l (fun a' w' => J a' w' ∧ μ a' w' < μ a w) Q) a w)
  (first : (∀ a w, J a w → R.wp P (Exit.jump l J Q) a w) → c.wp P (Exit.jump l J Q) a w) : (Code.scope c).wp P Q a w := by
 refine wp_scope_jumps l J μ hf (first fun a w h => Code.wp_mono ?_ (pass a w h)) (fun a w h => wp_seq (wp_skip (pass a w h)))
 intro e a' w' he
 cases e with
 | goto l' => exact ⟨he.1, he.2.1⟩
 | normal => exact he
 | exit id => exact he
 | ret => exact he
 | panic ch => exact he
 | outgrown => exact he
end
def plainL : Nat → List UInt8 → Option (List UInt8)
 | _, [] => some []
 | 0, _ :: _ => none
 | m + 1, c :: r =>
  if c.toNat = 95 then (plainL m r).map (32 :: ·)
  else if c.toNat = 61 then
   match r with
   | a :: b :: q => if hexD a < 0 then none else if hexD b < 0 then none else (plainL m q).map ((hexD a * 16 + hexD b).toNat.toUInt8 :: ·)
   | _ => none
  else (plainL m r).map (c :: ·)
def plainF (s : ByteArray) : ByteArray × Bool :=
 match plainL s.size s.data.toList with
 | some l => (⟨l.toArray⟩, true)
 | none => (⟨#[]⟩, false)
theorem cons_of (r : ByteArray) (h : 0 < r.size) : ∃ c, r.data.toList = c :: (r.extract 1 r.size).data.toList ∧ ∀ h : 0 < r.size, ((r[0]'h).toNat : Int) = (c.toNat : Int) := by
 have hl : 0 < r.data.toList.length := by rw [data_length]; exact h
 refine ⟨r.data.toList[0], ?_, fun _ => rfl⟩
 rw [Lib.extract_to_end]
 exact (List.drop_zero (l := r.data.toList)).symm.trans (List.drop_eq_getElem_cons hl)
theorem cons_at (r : ByteArray) (k : Nat) (h : k < r.size) : ∃ c, r.data.toList.drop k = c :: r.data.toList.drop (k + 1) ∧ ∀ h : k < r.size, ((r[k]'h).toNat : Int) = (c.toNat : Int) := by
 have hl : k < r.data.toList.length := by rw [data_length]; exact h
 exact ⟨r.data.toList[k], List.drop_eq_getElem_cons hl, fun _ => rfl⟩
theorem ext_size (r : ByteArray) (k : Nat) (h : k ≤ r.size) : (r.extract k r.size).size = r.size - k := by rw [ByteArray.size_extract]; omega
theorem empty_of (r : ByteArray) : r.toList.isEmpty = decide (r.size = 0) := by
 by_cases h : r.size = 0
 · rw [decide_eq_true h, Lib.toList_data, List.isEmpty_iff_length_eq_zero, data_length]; exact h
 ·
  rw [decide_eq_false h]
  cases e : r.toList.isEmpty with
  | false => rfl
  | true => rw [Lib.toList_data, List.isEmpty_iff_length_eq_zero, data_length] at e; exact absurd e h
theorem bytes_join (a b : Int) (h0 : 0 ≤ a) (h1 : a ≤ 15) (h2 : 0 ≤ b) (h3 : b ≤ 15) : bits .or .i64 (wrap64 (a * 16)) b = a * 16 + b := by
 obtain ⟨m, rfl⟩ := Int.eq_ofNat_of_zero_le h0
 obtain ⟨n, rfl⟩ := Int.eq_ofNat_of_zero_le h2
 have hm : m < 16 := by omega
 have hn : n < 16 := by omega
 have key : ∀ x y : Fin 16, bits .or .i64 (wrap64 (((x.val : Nat) : Int) * 16)) ((y.val : Nat) : Int) = ((x.val : Nat) : Int) * 16 + ((y.val : Nat) : Int) := by decide +kernel
 exact key ⟨m, hm⟩ ⟨n, hn⟩
def hexZ (x : Int) : Int := hexD x.toNat.toUInt8
theorem hexZ_of (c : UInt8) : hexZ (c.toNat : Int) = hexD c := by unfold hexZ; rw [Int.toNat_natCast]; congr 1; simp
theorem digZ172 (x : Int) (h0 : 0 ≤ x) (h1 : x < 256) (w : World) : Calls Tryz.prog 172 #[.int .u8 x] w fun e w' => e = .returned (.int .i64 (hexZ x)) ∧ w' = w := by
 have e : ((x.toNat.toUInt8).toNat : Int) = x := by simp; omega
 have h := digit172 x.toNat.toUInt8 w
 rw [e] at h
 exact h
theorem digZ160 (x : Int) (h0 : 0 ≤ x) (h1 : x < 256) (w : World) : Calls Tryz.prog 160 #[.int .u8 x] w fun e w' => e = .returned (.int .i64 (hexZ x)) ∧ w' = w := by
 have e : ((x.toNat.toUInt8).toNat : Int) = x := by simp; omega
 have h := digit160 x.toNat.toUInt8 w
 rw [e] at h
 exact h
theorem bb_drewN {B b : Nat} {l : List UInt8} {w : World} (h : BB B b l w) (n : Nat) : BB B b l (w.drewN n) := h
def PlainJ (s : ByteArray) (w : World) (B : Nat) (a' : Act) (w' : World) : Prop :=
 ∃ (r : ByteArray) (m : Nat) (acc : List UInt8) (u1 u5 u6 u7 u8 u9 u10 u11 u12 u13 u14 u15 u16 u17 u18 u19 u20 u21 u22 u23 u24 u25 u26 u27 u28 u29 u30 u31 u32 u33 u34 u35 u36 u37 u38 u39 u40 u41 u42 u43 u44 u45 : Value), a' = { tmps := #[.string r, u1, .string ⟨#[]⟩, .bool false, .pointer (some ⟨B, 0, none⟩), u5, u6, u7, u8, u9, u10, u11, u12, u13, u14, u15, u16, u17, u18, u19, u20, u21, u22, u23, u24, u25, u26, u27, u28, u29, u30, u31, u32, u33, u34, u35, u36, u37, u38, u39, u40, u41, u42, u43, u44, u45], defers := [] } ∧
  Hid (plainL s.size s.data.toList = (plainL m r.data.toList).map (acc ++ ·)) ∧ Hid (r.size ≤ m) ∧ Hid (acc.length + m ≤ s.size) ∧ Hid (BB B B acc w') ∧ Hid (Below B w w')
def leftOf (a' : Act) : Nat := match a'.tmps.getD 0 undef with | .string r => r.size | _ => 0
theorem plainF_some {s : ByteArray} {l : List UInt8} (h : plainL s.size s.data.toList = some l) : plainF s = (⟨l.toArray⟩, true) := by unfold plainF; rw [h]
theorem plainF_none {s : ByteArray} (h : plainL s.size s.data.toList = none) : plainF s = (⟨#[]⟩, false) := by unfold plainF; rw [h]
theorem plain_step {x : Option (List UInt8)} (acc : List UInt8) (c : UInt8) : (x.map (c :: ·)).map (acc ++ ·) = x.map ((acc ++ [c]) ++ ·) := by cases x <;> simp
set_option maxRecDepth 100000 in
set_option maxHeartbeats 4000000 in
theorem plain_any (s : ByteArray) (w : World) (hs : s.size ≤ 17592186044416) :
  Calls Tryz.prog 150 #[.string s] w fun e w' => e = .returned (.tuple #[.string (plainF s).1, .bool (plainF s).2]) ∧ Below w.heap.size w w' := by
 have HL := Lib.hid hs
 clear hs
 go_enter Tryz.func150, Tryz.ntmps150
 go_wp2
 refine scope_label 0 (PlainJ s w w.heap.size) (fun a' _ => leftOf a') rfl ?pass ?first
 case first =>
  intro hp
  have HP := Lib.hid hp
  clear hp
  go_wp2
  rename_i hK
  refine wp_label (hK _ _ (HP.out _ _ ?_))
  exact ⟨s, s.size, [], _, _, _, _, _, _, _, _, _, _, _, _, _, _, _, _, _, _, _, _, _, _, _, _, _, _, _, _, _, _, _, _, _, _, _, _, _, _, _, _, _, _, rfl, Lib.hid (by cases plainL s.size s.data.toList <;> simp), Lib.hid (Nat.le_refl _), Lib.hid (by simp), Lib.hid (bb_fresh w), Lib.hid ((Below.refl _ _).alloc (Nat.le_refl _) _)⟩
 case pass =>
  rintro a' wr ⟨r, m, acc, u1, u5, u6, u7, u8, u9, u10, u11, u12, u13, u14, u15, u16, u17, u18, u19, u20, u21, u22, u23, u24, u25, u26, u27, u28, u29, u30, u31, u32, u33, u34, u35, u36, u37, u38, u39, u40, u41, u42, u43, u44, u45, rfl, HG, HM, HA, HBB, HB⟩
  cases e : r.toList.isEmpty with
  | true =>
   have h0 : r.size = 0 := by rw [empty_of] at e; exact of_decide_eq_true e
   have hr : r.data.toList = [] := List.eq_nil_of_length_eq_zero (by rw [data_length]; exact h0)
   have HF := Lib.hid (plainF_some (s := s) (l := acc) (by rw [HG.out, hr]; unfold plainL; simp))
   have HS := Lib.hid (bstring w.heap.size w.heap.size acc wr HBB.out HB.out.size)
   clear h0 hr
   go_wp2_with (first | (go_at_call 36; refine HS.out.mono ?_; rintro e w1 ⟨rfl, h1⟩; have H1 := Lib.hid h1; clear h1))
   simp only [Exit.jump]
   go_ret2
   rw [HF.out]
   exact ⟨rfl, HB.out.trans H1.out⟩
  | false =>
   have h0 : 0 < r.size := by
    rw [empty_of] at e
    have := of_decide_eq_false e
    omega
   have h0i : (1 : Int) ≤ (r.size : Int) := by omega
   obtain ⟨m, rfl⟩ : ∃ n, m = n + 1 := ⟨m - 1, by have := HM.out; omega⟩
   obtain ⟨c, hc, hb⟩ := cons_of r h0
   obtain ⟨r1, hr1⟩ : ∃ r1, r.extract 1 r.size = r1 := ⟨_, rfl⟩
   have hs1 : r1.size = r.size - 1 := by rw [← hr1]; exact ext_size r 1 h0
   rw [hr1] at hc
   obtain ⟨x, hx⟩ : ∃ x : Int, (c.toNat : Int) = x := ⟨_, rfl⟩
   have hx256 := c.toNat_lt
   rw [hx] at hb
   have HC := Lib.hid hc
   have HS1 := Lib.hid hs1
   have hlen : acc.length + 1 ≤ 140737488355328 := by have := HA.out; have := HL.out; omega
   have HN := Lib.hid hlen
   by_cases h95 : x = 95
   ·
    subst h95
    have HE := Lib.hid (show plainL (m + 1) r.data.toList = (plainL m r1.data.toList).map ((32 : UInt8) :: ·) by rw [hc]; simp only [plainL]; rw [if_pos (by omega)])
    have HW := Lib.hid (bwrite w.heap.size w.heap.size acc 32 32 rfl wr HBB.out hlen HB.out.size)
    have HM' := Lib.hid h0
    clear hc hs1 hlen hx256 h0 hx
    go_wp2_with (first | (go_at_call 122; refine HW.out.mono ?_; rintro e w1 ⟨rfl, h1, h2⟩; have H1 := Lib.hid h1; have H2 := Lib.hid h2; clear h1 h2))
    go_step3
    refine ⟨rfl, ⟨r1, m, acc ++ [32], _, _, _, _, _, _, _, _, _, _, _, _, _, _, _, _, _, _, _, _, _, _, _, _, _, _, _, _, _, _, _, _, _, _, _, _, _, _, _, _, _, _, rfl, Lib.hid ?_, Lib.hid ?_, Lib.hid ?_, Lib.hid H1.out, Lib.hid (HB.out.trans H2.out)⟩, ?_⟩
    · rw [HG.out, HE.out]; exact plain_step acc 32
    · have := HM.out; have := HS1.out; have := HM'.out; omega
    · have := HA.out; simp; omega
    ·
     show r1.size < r.size
     have := HS1.out; have := HM'.out; omega
   ·
    have h95' : (x == 95) = false := by simpa using h95
    by_cases h61 : x = 61
    ·
     subst h61
     by_cases hsm : r1.size < 2
     ·
      have hsi : (r1.size : Int) < 2 := by omega
      have HF := Lib.hid (plainF_none (s := s) (by
       rw [HG.out, hc]
       simp only [plainL]
       rw [if_neg (by omega), if_pos (by omega)]
       have hl2 : r1.data.toList.length < 2 := by rw [data_length]; exact hsm
       match hh : r1.data.toList, hl2 with
       | [], _ => rfl
       | [_], _ => rfl))
      clear hc hs1 hlen hx256 h0 hx hsm
      go_wp2
      simp only [Exit.jump]
      go_ret2
      rw [HF.out]
      exact ⟨rfl, HB.out⟩
     ·
      have hsi : decide ((r1.size : Int) < 2) = false := decide_eq_false (by omega)
      obtain ⟨a, ha, hab⟩ := cons_at r1 0 (by omega)
      obtain ⟨b, hbb, hbc⟩ := cons_at r1 1 (by omega)
      rw [List.drop_zero, hbb] at ha
      obtain ⟨r2, hr2⟩ : ∃ r2, r1.extract 2 r1.size = r2 := ⟨_, rfl⟩
      have hs2 : r2.size = r1.size - 2 := by rw [← hr2]; exact ext_size r1 2 (by omega)
      have hd2 : r1.data.toList.drop (1 + 1) = r2.data.toList := by rw [← hr2, Lib.extract_to_end]
      rw [hd2] at ha
      obtain ⟨xa, hxa⟩ : ∃ x : Int, (a.toNat : Int) = x := ⟨_, rfl⟩
      obtain ⟨xb, hxb⟩ : ∃ x : Int, (b.toNat : Int) = x := ⟨_, rfl⟩
      have DG := Lib.hid digZ172
      rw [hxa] at hab
      rw [hxb] at hbc
      have ba0 : 0 ≤ xa := by omega
      have ba1 : xa < 256 := by have := a.toNat_lt; omega
      have bb0 : 0 ≤ xb := by omega
      have bb1 : xb < 256 := by have := b.toNat_lt; omega
      have hza := hexZ_of a
      have hzb := hexZ_of b
      rw [hxa] at hza
      rw [hxb] at hzb
      have g1 : (0 : Int) < (r1.size : Int) := by omega
      have g2 : (1 : Int) < (r1.size : Int) := by omega
      have g3 : (2 : Int) ≤ (r1.size : Int) := by omega
      have hra := hexD_range a
      have hrb := hexD_range b
      obtain ⟨da, hda⟩ : ∃ d, hexD a = d := ⟨_, rfl⟩
      obtain ⟨db, hdb⟩ : ∃ d, hexD b = d := ⟨_, rfl⟩
      rw [hda] at hra hza
      rw [hdb] at hrb hzb
      have HPL := Lib.hid (show plainL (m + 1) r.data.toList = if da < 0 then none else if db < 0 then none else (plainL m r2.data.toList).map ((da * 16 + db).toNat.toUInt8 :: ·) by
       rw [hc, ha, ← hda, ← hdb]
       simp only [plainL]
       rw [if_neg (by omega), if_pos (by omega)])
      have HS2 := Lib.hid hs2
      have H0 := Lib.hid h0
      have HSM := Lib.hid hsm
      clear hc hs1 hlen hx256 h0 hx hsm hxa hxb hda hdb ha hbb hd2 hs2
      by_cases hna : da < 0
      ·
       have HF := Lib.hid (plainF_none (s := s) (by rw [HG.out, HPL.out, if_pos hna]; rfl))
       have hna' : decide (da < 0) = true := decide_eq_true hna
       clear hra hrb
       go_wp2_with (first | (go_at_call 172; refine (DG.out _ ?_ ?_ _).mono ?_; (first | exact ba0 | exact bb0); (first | exact ba1 | exact bb1); rintro e w1 ⟨rfl, rfl⟩))
       simp only [Exit.jump]
       go_ret2
       rw [HF.out]
       exact ⟨rfl, HB.out⟩
      ·
       have hna' : decide (da < 0) = false := decide_eq_false hna
       by_cases hnb : db < 0
       ·
        have HF := Lib.hid (plainF_none (s := s) (by rw [HG.out, HPL.out, if_neg hna, if_pos hnb]; rfl))
        have hnb' : decide (db < 0) = true := decide_eq_true hnb
        clear hra hrb
        go_wp2_with (first | (go_at_call 172; refine (DG.out _ ?_ ?_ _).mono ?_; (first | exact ba0 | exact bb0); (first | exact ba1 | exact bb1); rintro e w1 ⟨rfl, rfl⟩))
        simp only [Exit.jump]
        go_ret2
        rw [HF.out]
        exact ⟨rfl, HB.out⟩
       ·
        have hnb' : decide (db < 0) = false := decide_eq_false hnb
        have hj : bits .or .i64 (wrap64 (da * 16)) db = da * 16 + db := bytes_join da db (by omega) hra.2 (by omega) hrb.2
        have hw1 : wrap64 (da * 16) = da * 16 := by unfold wrap64; omega
        rw [hw1] at hj
        obtain ⟨y, hy⟩ : ∃ y, da * 16 + db = y := ⟨_, rfl⟩
        rw [hy] at hj
        have hy0 : 0 ≤ y ∧ y < 256 := by omega
        have HY := Lib.hid hy
        have HY0 := Lib.hid hy0
        have hda0 : 0 ≤ da := by omega
        have hda15 := hra.2
        have hy8 : y % 256 = y := by omega
        clear hy hra hrb hy0
        go_wp2_with (first | (go_at_call 172; refine (DG.out _ ?_ ?_ _).mono ?_; (first | exact ba0 | exact bb0); (first | exact ba1 | exact bb1); rintro e w1 ⟨rfl, rfl⟩))
        go_quiet (first | (go_at_call 172; refine Calls.quiet_of_same (DG.out _ ?_ ?_ _); (first | exact ba0 | exact bb0); (first | exact ba1 | exact bb1)))
        obtain ⟨w2, hw2⟩ : ∃ w2, w1.drewN nq = w2 := ⟨_, rfl⟩
        rw [hw2]
        have HBB2 := Lib.hid (hw2 ▸ bb_drewN HBB.out nq)
        have HB2 := Lib.hid (hw2 ▸ pw_below_drewN HB.out nq)
        clear hw2
        have HW := Lib.hid (bwrite w.heap.size w.heap.size acc y.toNat.toUInt8 y (by have := HY0.out; simp; omega) w2 HBB2.out HN.out HB2.out.size)
        go_wp2_with (first | (go_at_call 122; refine HW.out.mono ?_; rintro e w3 ⟨rfl, h1, h2⟩; have H1 := Lib.hid h1; have H2 := Lib.hid h2; clear h1 h2))
        go_step3
        refine ⟨rfl, ⟨r2, m, acc ++ [y.toNat.toUInt8], _, _, _, _, _, _, _, _, _, _, _, _, _, _, _, _, _, _, _, _, _, _, _, _, _, _, _, _, _, _, _, _, _, _, _, _, _, _, _, _, _, _, rfl, Lib.hid ?_, Lib.hid ?_, Lib.hid ?_, Lib.hid H1.out, Lib.hid (HB2.out.trans H2.out)⟩, ?_⟩
        · rw [HG.out, HPL.out, if_neg (by omega), if_neg (by omega), HY.out]; exact plain_step acc _
        · have := HM.out; have := HS1.out; have := HS2.out; have := HSM.out; omega
        · have := HA.out; simp; omega
        ·
         show r2.size < r.size
         have := HS1.out; have := HS2.out; have := H0.out; omega
    ·
     have h61' : (x == 61) = false := by simpa using h61
     have HE := Lib.hid (show plainL (m + 1) r.data.toList = (plainL m r1.data.toList).map (c :: ·) by rw [hc]; simp only [plainL]; rw [if_neg (by omega), if_neg (by omega)])
     have HW := Lib.hid (bwrite w.heap.size w.heap.size acc c x hx wr HBB.out hlen HB.out.size)
     have HM' := Lib.hid h0
     clear hc hs1 hlen hx256 h0 hx h61 h95
     go_wp2_with (first | (go_at_call 122; refine HW.out.mono ?_; rintro e w1 ⟨rfl, h1, h2⟩; have H1 := Lib.hid h1; have H2 := Lib.hid h2; clear h1 h2))
     go_step3
     refine ⟨rfl, ⟨r1, m, acc ++ [c], _, _, _, _, _, _, _, _, _, _, _, _, _, _, _, _, _, _, _, _, _, _, _, _, _, _, _, _, _, _, _, _, _, _, _, _, _, _, _, _, _, _, rfl, Lib.hid ?_, Lib.hid ?_, Lib.hid ?_, Lib.hid H1.out, Lib.hid (HB.out.trans H2.out)⟩, ?_⟩
     · rw [HG.out, HE.out]; exact plain_step acc c
     · have := HM.out; have := HS1.out; have := HM'.out; omega
     · have := HA.out; simp; omega
     ·
      show r1.size < r.size
      have := HS1.out; have := HM'.out; omega
abbrev b64s : ByteArray := ⟨#[65, 66, 67, 68, 69, 70, 71, 72, 73, 74, 75, 76, 77, 78, 79, 80, 81, 82, 83, 84, 85, 86, 87, 88, 89, 90, 97, 98, 99, 100, 101, 102, 103, 104, 105, 106, 107, 108, 109, 110, 111, 112, 113, 114, 115, 116, 117, 118, 119, 120, 121, 122, 48, 49, 50, 51, 52, 53, 54, 55, 56, 57, 43, 47]⟩
def b64c (z : Int) : UInt8 := b64s.data.toList.getD z.toNat 0
def jn (b c : Int) : Int := (b * 256) % 4294967296 + c
def b64L : Int → Nat → List UInt8 → List UInt8
 | b, 0, [] => []
 | b, 1, [] => [b64c (b * 16 % 4294967296 % 64)]
 | b, _ + 2, [] => [b64c (b * 4 % 4294967296 % 64)]
 | b, 0, c :: r => b64c (jn b c.toNat / 4 % 64) :: b64L (jn b c.toNat) 1 r
 | b, 1, c :: r => b64c (jn b c.toNat / 16 % 64) :: b64L (jn b c.toNat) 2 r
 | b, _ + 2, c :: r => b64c (jn b c.toNat / 64 % 64) :: b64c (jn b c.toNat % 64) :: b64L (jn b c.toNat) 0 r
def pad (l : List UInt8) : List UInt8 := l ++ List.replicate ((4 - l.length % 4) % 4) 61
def base64F (s : ByteArray) : ByteArray := ⟨(pad (b64L 0 0 s.data.toList)).toArray⟩
theorem b64_byte (z : Int) (h0 : 0 ≤ z) (h1 : z < 64) : ∀ h : z.toNat < b64s.size, ((b64s[z.toNat]'h).toNat : Int) = ((b64c z).toNat : Int) := by
 intro h
 unfold b64c
 rw [List.getD_eq_getElem?_getD, List.getElem?_eq_getElem (by rw [data_length]; exact h)]
 rfl
theorem wraps_u32 (n : Int) (h₀ : 0 ≤ n) (h₁ : n < 2 ^ 32) : IntKind.u32.wrap n = n := by
 have : (2 : Int) ^ 32 = 4294967296 := by decide
 simp [IntKind.wrap, IntKind.bits, IntKind.signed]
 omega
theorem jn_bits (b c : Int) (h0 : 0 ≤ b) (h1 : b < 4294967296) (h2 : 0 ≤ c) (h3 : c < 256) : bits .or .u32 (b * 256 % 4294967296) c = jn b c := by
 have p8 : (2 : Int) ^ 8 = 256 := by decide
 have p32 : (2 : Int) ^ 32 = 4294967296 := by decide
 have e : b * 256 % 4294967296 = (b % 16777216) * 256 := by omega
 rw [e]
 have h := bits_join .u32 32 (by decide) wraps_u32 8 ((b % 16777216) * 256) c (by omega) (by rw [p8]; omega) (by rw [p32]; omega) h2 (by rw [p8]; omega) (by rw [p32]; omega)
 refine h.trans ?_
 unfold jn
 omega
theorem jn_range (b c : Int) (h2 : 0 ≤ c) (h3 : c < 256) : 0 ≤ jn b c ∧ jn b c < 4294967296 := by
 unfold jn
 omega
theorem and63 (y : Int) (h0 : 0 ≤ y) (h1 : y < 4294967296) : bits .and .u32 y 63 = y % 64 := by
 have p6 : (2 : Int) ^ 6 = 64 := by decide
 have p32 : (2 : Int) ^ 32 = 4294967296 := by decide
 have h := bits_mask .u32 32 (by decide) wraps_u32 6 (by decide) y h0 (by rw [p32]; omega)
 rw [p6] at h
 exact h
def fill (k : Nat) : List Int := List.replicate k 255 ++ List.replicate (256 - k) 0
def row (l : List Int) : Array Value := (l.map (Value.int .u8)).toArray
def numT : Nat → List Int
 | 0 => List.replicate 256 255
 | k + 1 => (numT k).set (b64c (k : Int)).toNat (k : Int)
theorem row_size (l : List Int) : (row l).size = l.length := by simp [row]
theorem row_at (l : List Int) (j : Nat) (h : j < l.length) : (row l)[j]? = some (.int .u8 (l.getD j 0)) := by simp [row, h, List.getD_eq_getElem?_getD]
theorem row_one (l : List Int) : (row l).all (·.oneCell') = true := by
 unfold row
 rw [List.all_toArray, List.all_eq_true]
 intro x hx
 obtain ⟨n, _, rfl⟩ := List.mem_map.1 hx
 rfl
theorem row_set (l : List Int) (j : Nat) (x : Int) : (row l).setIfInBounds j (.int .u8 x) = row (l.set j x) := by
 unfold row
 rw [List.setIfInBounds_toArray, List.map_set]
theorem fill_len (k : Nat) (h : k ≤ 256) : (fill k).length = 256 := by simp [fill]; omega
theorem fill_set (k : Nat) (h : k < 256) : (fill k).set k 255 = fill (k + 1) := by
 unfold fill
 rw [List.set_append_right _ _ (by simp)]
 have e : 256 - k = (256 - (k + 1)) + 1 := by omega
 rw [e, List.replicate_succ]
 simp only [List.length_replicate, Nat.sub_self, List.set_cons_zero]
 rw [List.replicate_succ', List.append_assoc]
 rfl
theorem fill_all : fill 256 = numT 0 := List.append_nil _
theorem numT_len : ∀ k, (numT k).length = 256
 | 0 => List.length_replicate
 | k + 1 => by show ((numT k).set _ _).length = 256; rw [List.length_set]; exact numT_len k
theorem zero_row : Tryz.zeroCells161 = row (fill 0) := by kernel_rfl
theorem info161 : (Tryz.prog.info? 161).map (·.size) = some 256 := by kernel_rfl
set_option maxRecDepth 100000 in
set_option maxHeartbeats 2000000 in
theorem numbers_any (w : World) : Calls Tryz.prog 123 #[] w fun e w' => e = .returned (.agg (row (numT 64))) ∧ Below w.heap.size w w' := by
 have HI := Lib.hid (show (Tryz.prog.info? 161).map (·.size) = some (row (numT 64)).size by rw [row_size, numT_len]; exact info161)
 go_enter Tryz.func123, Tryz.ntmps123
 go_wp2
 rw [zero_row]
 go_loopw [4] (fun vi wr => ∃ k : Nat, k ≤ 256 ∧ vi = .int .i64 k ∧ Hid (wr.heap[w.heap.size + 1]? = some (.cells (row (fill k)) 161 (0, 0))) ∧ Hid (wr.heap[w.heap.size]? = some (.cells (row (fill 0)) 161 (0, 0))) ∧ Hid (Below w.heap.size w wr)) (fun vi _ => 256 - (intOf vi).toNat)
 case atStart =>
  have h1 := blk_new (w.alloc (.cells (row (fill 0)) 161)) (.cells (row (fill 0)) 161)
  have h2 := blk_alloc (blk_new w (.cells (row (fill 0)) 161)) (.cells (row (fill 0)) 161)
  refine ⟨0, by omega, rfl, Lib.hid ?_, Lib.hid h2, Lib.hid (((Below.refl _ _).alloc (Nat.le_refl _) _).alloc (by simp) _)⟩
  rwa [show (w.alloc (.cells (row (fill 0)) 161)).heap.size = w.heap.size + 1 by simp] at h1
 case round =>
  obtain ⟨k, hk, rfl, H1, H0, HB⟩ := hrel
  by_cases k5 : k = 256
  ·
   subst k5
   have hm1 := H1.out
   rw [fill_all] at hm1
   have HM1 := Lib.hid hm1
   clear hm1 hk
   go_wp2
   obtain ⟨wo, rfl⟩ : ∃ wo : World, wo = wr := ⟨_, rfl⟩
   go_loopw [10] (fun vi w2 => ∃ k : Nat, k ≤ 64 ∧ vi = .int .i64 k ∧ Hid (w2.heap[w.heap.size + 1]? = some (.cells (row (numT k)) 161 (0, 0))) ∧ Hid (w2.heap[w.heap.size]? = some (.cells (row (fill 0)) 161 (0, 0))) ∧ Hid (Below w.heap.size w w2)) (fun vi _ => 64 - (intOf vi).toNat)
   case atStart => exact ⟨0, by omega, rfl, HM1, H0, HB⟩
   case round =>
    clear HM1 H0 HB H1
    obtain ⟨k, hk, rfl, H1, H0, HB⟩ := hrel
    by_cases k6 : k = 64
    ·
     subst k6
     have hi := HI.out
     have hsz : (row (fill 0)).size = (row (numT 64)).size := by rw [row_size, row_size, numT_len, fill_len 0 (by decide)]
     have hone := row_one (numT 64)
     go_wp2_with (first | (refine wpList_load_row rfl 161 _ rfl (w.heap.size + 1) rfl 161 _ (0, 0) _ H1.out Tryz.underlying161 rfl hi ?_) | (refine wpList_store_row rfl 161 _ _ rfl w.heap.size _ rfl rfl 161 _ H0.out hi hsz hone ?_))
     refine bodyPost_ret (results_cell_row rfl _ _ w.heap.size 161 (row (numT 64)) (0, 0) _ rfl (setRow_heap _ _ _ _ _ _ H0.out) Tryz.underlying161 rfl HI.out) rfl ?_
     exact ⟨rfl, below_setRow HB.out (Nat.le_refl _) _⟩
    ·
     have hlt : k < 64 := by omega
     obtain ⟨x, hx⟩ : ∃ x : Int, ((b64c (k : Int)).toNat : Int) = x := ⟨_, rfl⟩
     have hb := b64_byte (k : Int) (by omega) (by omega)
     rw [hx, Int.toNat_natCast] at hb
     have hx0 : 0 ≤ x := by omega
     have hx1 : x < 256 := by have := (b64c (k : Int)).toNat_lt; omega
     have hxn : (b64c (k : Int)).toNat = x.toNat := by omega
     have hc : wr.cell? ⟨w.heap.size + 1, x.toNat, none⟩ = some (.int .u8 ((numT k).getD x.toNat 0)) := (blk_cell H1.out x.toNat).trans (row_at _ _ (by rw [numT_len k]; omega))
     have hf := blk_frozen H1.out x.toNat
     have HS := Lib.hid (blk_set H1.out x.toNat (.int .u8 (k : Int)))
     have HXN := Lib.hid hxn
     have K6 := Lib.hid k6
     have HK := Lib.hid hk
     have e1 : (k : Int) < 64 := by omega
     have e2 : (k : Int) % 256 = (k : Int) := by omega
     clear k6 hk hxn hx
     go_wp2
     go_roundw
     case measure => have h1 := HK.out; have h2 := K6.out; simp [intOf]; omega
     case rel =>
      have h1 := HK.out
      have h2 := K6.out
      refine ⟨k + 1, by omega, by go_num, Lib.hid ?_, Lib.hid ?_, Lib.hid (HB.out.setCell (p := ⟨w.heap.size + 1, x.toNat, none⟩) (Nat.le_succ _) _)⟩
      ·
       rw [HS.out, row_set, ← HXN.out]
       rfl
      · exact (heap_setCell_other _ ⟨w.heap.size + 1, x.toNat, none⟩ _ _ (by simp)).trans H0.out
  ·
   have hlt : k < 256 := by omega
   have hc : wr.cell? ⟨w.heap.size + 1, k, none⟩ = some (.int .u8 ((fill k).getD k 0)) := (blk_cell H1.out k).trans (row_at _ k (by rw [fill_len k hk]; exact hlt))
   have hf := blk_frozen H1.out k
   have HS := Lib.hid (blk_set H1.out k (.int .u8 255))
   have K5 := Lib.hid k5
   have HK := Lib.hid hk
   have e1 : (k : Int) < 256 := by omega
   clear k5 hk
   go_wp2
   go_roundw
   case measure => have h1 := HK.out; have h2 := K5.out; simp [intOf]; omega
   case rel =>
    have h1 := HK.out
    have h2 := K5.out
    refine ⟨k + 1, by omega, by go_num, Lib.hid ?_, Lib.hid ?_, Lib.hid (HB.out.setCell (p := ⟨w.heap.size + 1, k, none⟩) (Nat.le_succ _) _)⟩
    · rw [HS.out, row_set, fill_set k (by omega)]
    · exact (heap_setCell_other _ ⟨w.heap.size + 1, k, none⟩ _ _ (by simp)).trans H0.out
def latin9F (b : Int) : Int := if b = 164 then 8364 else if b = 166 then 352 else if b = 168 then 353 else if b = 180 then 381 else if b = 184 then 382 else if b = 188 then 338 else if b = 189 then 339 else if b = 190 then 376 else b
def letterF (c b : Int) : Int := if b < 128 then b else if c = 1 then 65533 else if c = 5 ∧ b < 160 then winTab.getD (b - 128).toNat 0 else if c = 4 then latin9F b else b
set_option maxRecDepth 100000 in
set_option maxHeartbeats 1000000 in
theorem latin9_any (b : Int) (h0 : 0 ≤ b) (h1 : b < 256) (w : World) : Calls Tryz.prog 128 #[.int .u8 b] w fun e w' => e = .returned (.int .i32 (latin9F b)) ∧ w = w' := by
 unfold latin9F
 go_enter Tryz.func128, Tryz.ntmps128
 go_wp2
 all_goals (go_ret; first | exact ⟨rfl, rfl⟩ | (simp_all; try omega))
set_option maxRecDepth 100000 in
set_option maxHeartbeats 1000000 in
theorem letter_any (c b : Int) (h0 : 0 ≤ b) (h1 : b < 256) (w : World) (hT : Tabs w) : Calls Tryz.prog 95 #[.int .u8 c, .int .u8 b] w fun e w' => e = .returned (.int .i32 (letterF c b)) ∧ w = w' := by
 have HL := Lib.hid (latin9_any b h0 h1)
 unfold letterF
 by_cases hb : b < 128
 ·
  have hb' : decide (b < 128) = true := decide_eq_true hb
  rw [if_pos hb]
  go_enter Tryz.func95, Tryz.ntmps95
  go_wp2
  go_ret
  exact ⟨rfl, rfl⟩
 ·
  have hb' : decide (b < 128) = false := decide_eq_false hb
  rw [if_neg hb]
  by_cases hc1 : c = 1
  ·
   subst hc1
   rw [if_pos rfl]
   clear hT
   go_enter Tryz.func95, Tryz.ntmps95
   go_wp2
   go_ret
   exact ⟨rfl, rfl⟩
  ·
   have hc1' : (c == 1) = false := by simpa using hc1
   rw [if_neg hc1]
   by_cases hc5 : c = 5
   ·
    subst hc5
    by_cases h160 : b < 160
    ·
     rw [if_pos ⟨rfl, h160⟩]
     have h160' : decide (b < 160) = true := decide_eq_true h160
     have hcell := hT.2.2 (b - 128).toNat (by omega)
     have hr1 : (0 : Int) ≤ b - 128 := by omega
     have hr2 : b - 128 < 32 := by omega
     obtain ⟨x, hx⟩ : ∃ x, winTab.getD (b - 128).toNat 0 = x := ⟨_, rfl⟩
     rw [hx] at hcell ⊢
     clear hT hx hb hc1
     go_enter Tryz.func95, Tryz.ntmps95
     go_wp2
     go_ret
     exact ⟨rfl, rfl⟩
    ·
     have h160' : decide (b < 160) = false := decide_eq_false h160
     rw [if_neg (fun h => h160 h.2), if_neg (by decide)]
     clear hT hb hc1
     go_enter Tryz.func95, Tryz.ntmps95
     go_wp2
     go_ret
     exact ⟨rfl, rfl⟩
   ·
    have hc5' : (c == 5) = false := by simpa using hc5
    rw [if_neg (fun h => hc5 h.1)]
    by_cases hc4 : c = 4
    ·
     subst hc4
     rw [if_pos rfl]
     clear hT hb hc1 hc5
     go_enter Tryz.func95, Tryz.ntmps95
     go_wp2_with (first | (go_at_call 128; refine (HL.out _).mono ?_; rintro e w1 ⟨rfl, rfl⟩))
     go_ret
     exact ⟨rfl, rfl⟩
    ·
     have hc4' : (c == 4) = false := by simpa using hc4
     rw [if_neg hc4]
     clear hT hb hc1 hc5 hc4
     go_enter Tryz.func95, Tryz.ntmps95
     go_wp2
     go_ret
     exact ⟨rfl, rfl⟩
def quotedL : Nat → List UInt8 → Option (List UInt8 × List UInt8)
 | _, [] => none
 | 0, _ :: _ => none
 | m + 1, c :: r =>
  if c.toNat = 34 then some ([], r)
  else if c.toNat = 92 then
   match r with
   | [] => none
   | d :: q => (quotedL m q).map fun p => (d :: p.1, p.2)
  else (quotedL m r).map fun p => (c :: p.1, p.2)
def quotedF (s : ByteArray) : ByteArray × ByteArray × Bool :=
 match quotedL s.size s.data.toList with
 | some p => (⟨p.1.toArray⟩, ⟨p.2.toArray⟩, true)
 | none => (⟨#[]⟩, ⟨#[]⟩, false)
theorem quotedF_some {s : ByteArray} {p : List UInt8 × List UInt8} (h : quotedL s.size s.data.toList = some p) : quotedF s = (⟨p.1.toArray⟩, ⟨p.2.toArray⟩, true) := by unfold quotedF; rw [h]
theorem quotedF_none {s : ByteArray} (h : quotedL s.size s.data.toList = none) : quotedF s = (⟨#[]⟩, ⟨#[]⟩, false) := by unfold quotedF; rw [h]
def onto (acc : List UInt8) (p : List UInt8 × List UInt8) : List UInt8 × List UInt8 := (acc ++ p.1, p.2)
theorem quoted_step {x : Option (List UInt8 × List UInt8)} (acc : List UInt8) (c : UInt8) : (x.map fun p => (c :: p.1, p.2)).map (onto acc) = x.map (onto (acc ++ [c])) := by cases x <;> simp [onto]
def QuotedJ (s : ByteArray) (w : World) (B : Nat) (a' : Act) (w' : World) : Prop :=
 ∃ (r : ByteArray) (m : Nat) (acc : List UInt8) (u1 u6 u7 u8 u9 u10 u11 u12 u13 u14 u15 u16 u17 u18 u19 u20 u21 u22 u23 u24 u25 u26 u27 : Value), a' = { tmps := #[.string r, u1, .string ⟨#[]⟩, .string ⟨#[]⟩, .bool false, .pointer (some ⟨B, 0, none⟩), u6, u7, u8, u9, u10, u11, u12, u13, u14, u15, u16, u17, u18, u19, u20, u21, u22, u23, u24, u25, u26, u27], defers := [] } ∧
  Hid (quotedL s.size s.data.toList = (quotedL m r.data.toList).map (onto acc)) ∧ Hid (r.size ≤ m) ∧ Hid (acc.length + m ≤ s.size) ∧ Hid (BB B B acc w') ∧ Hid (Below B w w')
set_option maxRecDepth 100000 in
set_option maxHeartbeats 4000000 in
theorem quoted_any (s : ByteArray) (w : World) (hs : s.size ≤ 17592186044416) :
  Calls Tryz.prog 158 #[.string s] w fun e w' => e = .returned (.tuple #[.string (quotedF s).1, .string (quotedF s).2.1, .bool (quotedF s).2.2]) ∧ Below w.heap.size w w' := by
 have HL := Lib.hid hs
 clear hs
 go_enter Tryz.func158, Tryz.ntmps158
 go_wp2
 refine scope_label 0 (QuotedJ s w w.heap.size) (fun a' _ => leftOf a') rfl ?pass ?first
 case first =>
  intro hp
  have HP := Lib.hid hp
  clear hp
  go_wp2
  rename_i hK
  refine wp_label (hK _ _ (HP.out _ _ ?_))
  exact ⟨s, s.size, [], _, _, _, _, _, _, _, _, _, _, _, _, _, _, _, _, _, _, _, _, _, _, _, rfl, Lib.hid (by cases quotedL s.size s.data.toList <;> simp [onto]), Lib.hid (Nat.le_refl _), Lib.hid (by simp), Lib.hid (bb_fresh w), Lib.hid ((Below.refl _ _).alloc (Nat.le_refl _) _)⟩
 case pass =>
  rintro a' wr ⟨r, m, acc, u1, u6, u7, u8, u9, u10, u11, u12, u13, u14, u15, u16, u17, u18, u19, u20, u21, u22, u23, u24, u25, u26, u27, rfl, HG, HM, HA, HBB, HB⟩
  cases e : r.toList.isEmpty with
  | true =>
   have h0 : r.size = 0 := by rw [empty_of] at e; exact of_decide_eq_true e
   have hr : r.data.toList = [] := List.eq_nil_of_length_eq_zero (by rw [data_length]; exact h0)
   have HF := Lib.hid (quotedF_none (s := s) (by rw [HG.out, hr]; unfold quotedL; simp))
   clear h0 hr
   go_wp2
   simp only [Exit.jump]
   go_ret3
   rw [HF.out]
   exact ⟨rfl, HB.out⟩
  | false =>
   have h0 : 0 < r.size := by
    rw [empty_of] at e
    have := of_decide_eq_false e
    omega
   have h0i : (1 : Int) ≤ (r.size : Int) := by omega
   obtain ⟨m, rfl⟩ : ∃ n, m = n + 1 := ⟨m - 1, by have := HM.out; omega⟩
   obtain ⟨c, hc, hb⟩ := cons_of r h0
   obtain ⟨r1, hr1⟩ : ∃ r1, r.extract 1 r.size = r1 := ⟨_, rfl⟩
   have hs1 : r1.size = r.size - 1 := by rw [← hr1]; exact ext_size r 1 h0
   rw [hr1] at hc
   obtain ⟨x, hx⟩ : ∃ x : Int, (c.toNat : Int) = x := ⟨_, rfl⟩
   rw [hx] at hb
   have HS1 := Lib.hid hs1
   have hlen : acc.length + 1 ≤ 140737488355328 := by have := HA.out; have := HL.out; omega
   have HN := Lib.hid hlen
   by_cases h34 : x = 34
   ·
    subst h34
    have HF := Lib.hid (quotedF_some (s := s) (p := (acc, r1.data.toList)) (by rw [HG.out, hc]; simp only [quotedL]; rw [if_pos (by omega)]; simp [onto]))
    have HS := Lib.hid (bstring w.heap.size w.heap.size acc wr HBB.out HB.out.size)
    clear hc hs1 hlen h0 hx
    go_wp2_with (first | (go_at_call 36; refine HS.out.mono ?_; rintro e w1 ⟨rfl, h1⟩; have H1 := Lib.hid h1; clear h1))
    simp only [Exit.jump]
    go_ret3
    rw [HF.out]
    exact ⟨by rw [Lib.mk_data]; rfl, HB.out.trans H1.out⟩
   ·
    have h34' : (x == 34) = false := by simpa using h34
    by_cases h92 : x = 92
    ·
     subst h92
     cases e1 : r1.toList.isEmpty with
     | true =>
      have h10 : r1.size = 0 := by rw [empty_of] at e1; exact of_decide_eq_true e1
      have hr1n : r1.data.toList = [] := List.eq_nil_of_length_eq_zero (by rw [data_length]; exact h10)
      have HF := Lib.hid (quotedF_none (s := s) (by rw [HG.out, hc, hr1n]; simp only [quotedL]; rw [if_neg (by omega), if_pos (by omega)]; rfl))
      clear hc hs1 hlen h0 hx h10 hr1n
      go_wp2
      simp only [Exit.jump]
      go_ret3
      rw [HF.out]
      exact ⟨rfl, HB.out⟩
     | false =>
      have h10 : 0 < r1.size := by
       rw [empty_of] at e1
       have := of_decide_eq_false e1
       omega
      have h10i : (1 : Int) ≤ (r1.size : Int) := by omega
      obtain ⟨d, hd, hdb⟩ := cons_of r1 h10
      obtain ⟨r2, hr2⟩ : ∃ r2, r1.extract 1 r1.size = r2 := ⟨_, rfl⟩
      have hs2 : r2.size = r1.size - 1 := by rw [← hr2]; exact ext_size r1 1 h10
      rw [hr2] at hd
      obtain ⟨y, hy⟩ : ∃ y : Int, (d.toNat : Int) = y := ⟨_, rfl⟩
      rw [hy] at hdb
      have HE := Lib.hid (show quotedL (m + 1) r.data.toList = (quotedL m r2.data.toList).map fun p => (d :: p.1, p.2) by rw [hc, hd]; simp only [quotedL]; rw [if_neg (by omega), if_pos (by omega)])
      have HS2 := Lib.hid hs2
      have HY := Lib.hid hy
      have H0 := Lib.hid h0
      have H10 := Lib.hid h10
      clear hc hs1 hlen h0 hx hd hs2 hy h10
      go_wp2
      go_quiet (fail)
      obtain ⟨w2, hw2⟩ : ∃ w2, wr.drewN nq = w2 := ⟨_, rfl⟩
      rw [hw2]
      have HBB2 := Lib.hid (hw2 ▸ bb_drewN HBB.out nq)
      have HB2 := Lib.hid (hw2 ▸ pw_below_drewN HB.out nq)
      clear hw2
      have HW := Lib.hid (bwrite w.heap.size w.heap.size acc d y HY.out w2 HBB2.out HN.out HB2.out.size)
      go_wp2_with (first | (go_at_call 122; refine HW.out.mono ?_; rintro e w3 ⟨rfl, h1, h2⟩; have H1 := Lib.hid h1; have H2 := Lib.hid h2; clear h1 h2))
      go_step3
      refine ⟨rfl, ⟨r2, m, acc ++ [d], _, _, _, _, _, _, _, _, _, _, _, _, _, _, _, _, _, _, _, _, _, _, _, rfl, Lib.hid ?_, Lib.hid ?_, Lib.hid ?_, Lib.hid H1.out, Lib.hid (HB2.out.trans H2.out)⟩, ?_⟩
      · rw [HG.out, HE.out]; exact quoted_step acc _
      · have := HM.out; have := HS1.out; have := HS2.out; have := H0.out; omega
      · have := HA.out; simp; omega
      ·
       show r2.size < r.size
       have := HS1.out; have := HS2.out; have := H0.out; omega
    ·
     have h92' : (x == 92) = false := by simpa using h92
     have HE := Lib.hid (show quotedL (m + 1) r.data.toList = (quotedL m r1.data.toList).map fun p => (c :: p.1, p.2) by rw [hc]; simp only [quotedL]; rw [if_neg (by omega), if_neg (by omega)])
     have HW := Lib.hid (bwrite w.heap.size w.heap.size acc c x hx wr HBB.out hlen HB.out.size)
     have HM' := Lib.hid h0
     clear hc hs1 hlen h0 hx h34 h92
     go_wp2_with (first | (go_at_call 122; refine HW.out.mono ?_; rintro e w1 ⟨rfl, h1, h2⟩; have H1 := Lib.hid h1; have H2 := Lib.hid h2; clear h1 h2))
     go_step3
     refine ⟨rfl, ⟨r1, m, acc ++ [c], _, _, _, _, _, _, _, _, _, _, _, _, _, _, _, _, _, _, _, _, _, _, _, rfl, Lib.hid ?_, Lib.hid ?_, Lib.hid ?_, Lib.hid H1.out, Lib.hid (HB.out.trans H2.out)⟩, ?_⟩
     · rw [HG.out, HE.out]; exact quoted_step acc c
     · have := HM.out; have := HS1.out; have := HM'.out; omega
     · have := HA.out; simp; omega
     ·
      show r1.size < r.size
      have := HS1.out; have := HM'.out; omega
def hasB (what s : ByteArray) : Bool := Lib.contains s.data.toList what.data.toList
def hasF (l : List ByteArray) (what : ByteArray) : Bool := l.any (hasB what)
set_option maxRecDepth 100000 in
set_option maxHeartbeats 1000000 in
theorem has1_any (s what : ByteArray) (g : Nat) (w : World) (hg : w.heap[g]? = some (.cells #[.string what] 9 (0, 0))) (hT : Tabs w) (hs : s.size < 4294967281) :
  Calls Tryz.prog 58 #[.string s, .pointer (some ⟨g, 0, none⟩)] w fun e w' => e = .returned (.bool (hasB what s)) ∧ w' = w := by
 obtain ⟨m, hm⟩ := hT.2.1
 have HC := Lib.hid (Tryz.strings_Contains s what m w hs hm)
 have hc : w.cell? ⟨g, 0, none⟩ = some (.string what) := blk_cell hg 0
 clear hg hT hs hm
 go_enter Tryz.func58, Tryz.ntmps58
 go_wp2_with (first | (go_at_call 31; refine HC.out.mono ?_; rintro e w1 ⟨rfl, rfl⟩))
 go_ret
 exact ⟨rfl, rfl⟩
set_option maxRecDepth 100000 in
set_option maxHeartbeats 1000000 in
theorem indexHas_any (A : Option Addr) (c : Nat) (l : List ByteArray) (what : ByteArray) (g : Nat) (w : World) (hr : Kd.C Kd.string w A l.length l) (hg : w.heap[g]? = some (.cells #[.string what] 9 (0, 0))) (hT : Tabs w) (hs : ∀ s ∈ l, s.size < 4294967281) :
  Calls Tryz.prog 97 #[.slice A l.length c, .func (.func 58) #[] #[.pointer (some ⟨g, 0, none⟩)]] w fun e w' => (∃ i : Int, e = .returned (.int .i64 i) ∧ decide (0 ≤ i) = hasF l what) ∧ w' = w := by
 have HR := Lib.hid hr
 have H1 := Lib.hid (fun s (h : s ∈ l) => has1_any s what g w hg hT (hs s h))
 have HM := Lib.hid hr.2.1
 clear hr hg hT hs
 go_enter Tryz.func97, Tryz.ntmps97
 go_wp2
 go_loopw [8] (fun vi wr => ∃ k : Nat, k ≤ l.length ∧ vi = .int .i64 k ∧ Hid (∀ j (h : j < l.length), j < k → hasB what l[j] = false) ∧ w = wr) (fun vi _ => l.length - (intOf vi).toNat)
 case atStart => exact ⟨0, by omega, rfl, Lib.hid (fun j h h2 => by omega), rfl⟩
 case round =>
  obtain ⟨k, hk, rfl, HN, rfl⟩ := hrel
  by_cases k5 : k = l.length
  ·
   subst k5
   go_wp2
   go_ret
   refine ⟨⟨-1, rfl, ?_⟩, rfl⟩
   have : hasF l what = false := by
    unfold hasF
    rw [List.any_eq_false]
    intro x hx
    obtain ⟨j, hj, rfl⟩ := List.getElem_of_mem hx
    rw [HN.out j hj hj]
    decide
   rw [this]
   rfl
  ·
   have hlt : k < l.length := by omega
   obtain ⟨x, hx⟩ : ∃ x, rdOf ByteArray.empty l (k : Int) = x := ⟨_, rfl⟩
   have hxe : l[k] = x := by rw [← hx]; simp [rdOf, List.getD_eq_getElem?_getD, hlt]
   obtain ⟨ad, e, hc⟩ := Kd.at_string HR.out (k : Int) (by omega) (by omega)
   cases e
   rw [hx, Int.toNat_natCast] at hc
   have HC := Lib.hid (H1.out x (hxe ▸ List.getElem_mem hlt))
   have HX := Lib.hid hxe
   have K5 := Lib.hid k5
   have HK := Lib.hid hk
   have e1 : (k : Int) < (l.length : Int) := by omega
   have hk64 : (k : Int) ≤ 9223372036854775806 := by have := HM.out; omega
   clear hk k5 hx hxe
   obtain ⟨b, hb⟩ : ∃ b, hasB what x = b := ⟨_, rfl⟩
   rw [hb] at HC
   have HB := Lib.hid hb
   clear hb
   cases b with
   | true =>
    go_wp2_with (first | (go_at_call 58; refine HC.out.mono ?_; rintro e w1 ⟨rfl, rfl⟩))
    go_ret
    refine ⟨⟨k, rfl, ?_⟩, rfl⟩
    have : hasF l what = true := by
     unfold hasF
     rw [List.any_eq_true]
     exact ⟨x, HX.out ▸ List.getElem_mem hlt, HB.out⟩
    rw [this]
    exact decide_eq_true (by omega)
   | false =>
    go_wp2_with (first | (go_at_call 58; refine HC.out.mono ?_; rintro e w1 ⟨rfl, rfl⟩))
    go_roundw
    case measure =>
     have h1 := HK.out
     have h2 := K5.out
     simp [intOf]
     omega
    case rel =>
     have h1 := HK.out
     have h2 := K5.out
     refine ⟨k + 1, by omega, by go_num, Lib.hid (fun j h hj => ?_), by trivial⟩
     by_cases hjk : j = k
     ·
      subst hjk
      have := HX.out
      rw [this]
      exact HB.out
     · exact HN.out j h (by omega)
set_option maxRecDepth 100000 in
set_option maxHeartbeats 1000000 in
theorem has_any (A : Option Addr) (c : Nat) (l : List ByteArray) (what : ByteArray) (w : World) (hr : Kd.C Kd.string w A l.length l) (hT : Tabs w) (hs : ∀ s ∈ l, s.size < 4294967281) :
  Calls Tryz.prog 24 #[.slice A l.length c, .string what] w fun e w' => e = .returned (.bool (hasF l what)) ∧ Below w.heap.size w w' := by
 have H1 := Lib.hid (indexHas_any A c l what w.heap.size (w.alloc (.cells #[.string what] 9)) (Kd.C_below hr ((Below.refl _ _).alloc (Nat.le_refl _) _)) (blk_new _ _) (tabs_alloc hT _) hs)
 clear hr hT hs
 have H2 : Calls Tryz.prog 57 #[.slice A l.length c, .func (.func 58) #[] #[.pointer (some ⟨w.heap.size, 0, none⟩)]] (w.alloc (.cells #[.string what] 9)) fun e w' => e = .returned (.bool (hasF l what)) ∧ w' = w.alloc (.cells #[.string what] 9) := by
  go_enter Tryz.func57, Tryz.ntmps57
  go_wp2_with (first | (go_at_call 97; refine H1.out.mono ?_; rintro e w1 ⟨⟨i, rfl, hi⟩, rfl⟩))
  go_ret
  exact ⟨by rw [← hi]; rfl, rfl⟩
 have H3 := Lib.hid H2
 clear H1 H2
 go_enter Tryz.func24, Tryz.ntmps24
 go_wp2_with (first | (go_at_call 57; refine H3.out.mono ?_; rintro e w1 ⟨rfl, rfl⟩))
 go_ret
 exact ⟨rfl, (Below.refl _ _).alloc (Nat.le_refl _) _⟩
end Go.Proofs.YtigcbajcifhinaaGreatDoor.Txt
namespace Go.Proofs
open Go.RowKit
theorem Tryz.info120 : (Tryz.prog.info? 120).map (fun i => (i.zero, i.size)) = some (some (.agg (Array.replicate 256 (.bool false))), 256) := by kernel_rfl
set_option maxRecDepth 100000 in
theorem Tryz.strings_Trim_laid (s cutset : ByteArray) (w : World) (hs : s.size ≤ 9223372036854775807) (hcs : cutset.size < 4294967281) (h : cutset.data.toList.all (fun b => decide (b.toNat < 128)) = true) :
  Calls Tryz.prog 35 #[.string s, .string cutset] w fun e w' => e = .returned (.string ⟨(Lib.trimS s.data.toList cutset.data.toList).toArray⟩) ∧ Below w.heap.size w w' := Any.strings_Trim_laid Tryz.lays160 Tryz.info120 s cutset w hs hcs (ascii_of_all h)
set_option maxRecDepth 100000 in
theorem Tryz.strings_TrimRight_laid (s cutset : ByteArray) (w : World) (hs : s.size ≤ 9223372036854775807) (hcs : cutset.size < 4294967281) (h : cutset.data.toList.all (fun b => decide (b.toNat < 128)) = true) :
  Calls Tryz.prog 120 #[.string s, .string cutset] w fun e w' => e = .returned (.string ⟨(Lib.trimRightS s.data.toList cutset.data.toList).toArray⟩) ∧ Below w.heap.size w w' := Any.strings_TrimRight_laid Tryz.lays162 Tryz.info120 s cutset w hs hcs (ascii_of_all h)
set_option maxRecDepth 100000 in
theorem Tryz.strings_TrimLeft_laid (s cutset : ByteArray) (w : World) (hcs : cutset.size < 4294967281) (h : cutset.data.toList.all (fun b => decide (b.toNat < 128)) = true) :
  Calls Tryz.prog 127 #[.string s, .string cutset] w fun e w' => e = .returned (.string ⟨(Lib.trimLeftS s.data.toList cutset.data.toList).toArray⟩) ∧ Below w.heap.size w w' := Any.strings_TrimLeft_laid Tryz.lays161 Tryz.info120 s cutset w hcs (ascii_of_all h)
end Go.Proofs
namespace Go.Proofs.YtigcbajcifhinaaGreatDoor.Txt
open Go.RowKit Go.Proofs.YtigcbajcifhinaaGreatDoorW.PrintWords
def digs : List UInt8 := [48, 49, 50, 51, 52, 53, 54, 55, 56, 57]
def digitsF (s : ByteArray) (least most : Int) : Int :=
 if (s.size : Int) < least then -1 else if most < (s.size : Int) then -1 else if (Lib.trimS s.data.toList digs).isEmpty = false then -1
 else match Lib.atoi s.data.toList with | some n => n | none => 0
theorem digs_spec : ∀ c : Fin 256, digs.contains c.val.toUInt8 = true → 48 ≤ c.val ∧ c.val ≤ 57 := by decide +kernel
theorem digs_byte (b : UInt8) (h : digs.contains b = true) : 48 ≤ b.toNat ∧ b.toNat ≤ 57 :=
 digs_spec ⟨b.toNat, b.toNat_lt⟩ (by simpa using h)
theorem decFrom_some : ∀ (l : List UInt8) (acc : Nat), (∀ b ∈ l, digs.contains b = true) → ∃ n, Lib.decFrom acc l = some n
 | [], acc, _ => ⟨acc, rfl⟩
 | b :: r, acc, h => by
  have hb := digs_byte b (h b (by simp))
  unfold Lib.decFrom
  rw [show Lib.digitVal b = some (b.toNat - 48) by unfold Lib.digitVal; rw [if_pos hb]]
  exact decFrom_some r _ (fun c hc => h c (by simp [hc]))
theorem dw_nil (p : UInt8 → Bool) : ∀ l : List UInt8, l.dropWhile p = [] → ∀ b ∈ l, p b = true
 | [], _, b, hb => by simp at hb
 | x :: r, h, b, hb => by
  rw [List.dropWhile_cons] at h
  by_cases hx : p x = true
  ·
   rw [if_pos hx] at h
   rcases List.mem_cons.1 hb with rfl | hb
   · exact hx
   · exact dw_nil p r h b hb
  ·
   rw [if_neg hx] at h
   cases h
theorem trim_all (l : List UInt8) (h : Lib.trimS l digs = []) : ∀ b ∈ l, digs.contains b = true := by
 have h1 : ∀ b ∈ Lib.trimRightS l digs, digs.contains b = true := by
  unfold Lib.trimS Lib.trimLeftS at h
  intro b hb
  exact dw_nil _ _ h b hb
 cases hr : Lib.trimRightS l digs with
 | nil =>
  unfold Lib.trimRightS at hr
  rw [List.reverse_eq_nil_iff] at hr
  intro b hb
  exact dw_nil _ _ hr b (by simpa using hb)
 | cons x r =>
  exfalso
  unfold Lib.trimRightS at hr
  have hne : l.reverse.dropWhile (digs.contains ·) ≠ [] := fun e => by rw [e] at hr; simp at hr
  have hh := List.head_dropWhile_not (digs.contains ·) hne
  have hm : (l.reverse.dropWhile (digs.contains ·)).head hne ∈ Lib.trimRightS l digs := by
   unfold Lib.trimRightS
   rw [List.mem_reverse]
   exact List.head_mem hne
  rw [h1 _ hm] at hh
  cases hh
theorem atoi_some (l : List UInt8) (h : Lib.trimS l digs = []) (h0 : l ≠ []) : ∃ n, Lib.atoi l = some n := by
 have ha := trim_all l h
 cases l with
 | nil => exact absurd rfl h0
 | cons b r =>
  have hb := digs_byte b (ha b (by simp))
  have h1 : (b == 45) = false := by
   rw [beq_eq_false_iff_ne]
   intro e
   subst e
   revert hb
   decide
  have h2 : (b == 43) = false := by
   rw [beq_eq_false_iff_ne]
   intro e
   subst e
   revert hb
   decide
  obtain ⟨n, hn⟩ := decFrom_some (b :: r) 0 ha
  refine ⟨n, ?_⟩
  simp [Lib.atoi, h1, h2, Lib.decNat, hn]
set_option maxRecDepth 100000 in
set_option maxHeartbeats 1000000 in
theorem digits_any (s : ByteArray) (least most : Int) (h1 : 1 ≤ least) (h2 : most ≤ 18) (w : World) (hs : s.size ≤ 9223372036854775807) :
  Calls Tryz.prog 47 #[.string s, .int .i64 least, .int .i64 most] w fun e w' => e = .returned (.int .i64 (digitsF s least most)) ∧ Below w.heap.size w w' := by
 unfold digitsF
 by_cases hl : (s.size : Int) < least
 ·
  have hl' : decide ((s.size : Int) < least) = true := decide_eq_true hl
  rw [if_pos hl]
  go_enter Tryz.func47, Tryz.ntmps47
  go_wp2
  go_ret
  exact ⟨rfl, Below.refl _ _⟩
 ·
  have hl' : decide ((s.size : Int) < least) = false := decide_eq_false hl
  rw [if_neg hl]
  by_cases hm : most < (s.size : Int)
  ·
   have hm' : decide (most < (s.size : Int)) = true := decide_eq_true hm
   rw [if_pos hm]
   go_enter Tryz.func47, Tryz.ntmps47
   go_wp2
   go_ret
   exact ⟨rfl, Below.refl _ _⟩
  ·
   have hm' : decide (most < (s.size : Int)) = false := decide_eq_false hm
   rw [if_neg hm]
   have HT := Lib.hid (Tryz.strings_Trim_laid s ⟨#[48, 49, 50, 51, 52, 53, 54, 55, 56, 57]⟩ w hs (by decide) (by decide))
   obtain ⟨t, ht⟩ : ∃ t : ByteArray, (⟨(Lib.trimS s.data.toList digs).toArray⟩ : ByteArray) = t := ⟨_, rfl⟩
   have ht2 : t.data.toList = Lib.trimS s.data.toList digs := by rw [← ht]
   rw [show (⟨(Lib.trimS s.data.toList (⟨#[48, 49, 50, 51, 52, 53, 54, 55, 56, 57]⟩ : ByteArray).data.toList).toArray⟩ : ByteArray) = t from ht] at HT
   cases he : (Lib.trimS s.data.toList digs).isEmpty with
   | false =>
    have he' : t.toList.isEmpty = false := by rw [Lib.toList_data, ht2]; exact he
    rw [if_pos rfl]
    clear ht ht2 he
    go_enter Tryz.func47, Tryz.ntmps47
    go_wp2_with (first | (go_at_call 35; refine HT.out.mono ?_; rintro e w1 ⟨rfl, hb1⟩; have HB1 := Lib.hid hb1; clear hb1))
    go_ret
    exact ⟨rfl, HB1.out⟩
   | true =>
    have he' : t.toList.isEmpty = true := by rw [Lib.toList_data, ht2]; exact he
    rw [if_neg (by decide)]
    obtain ⟨n, hn⟩ := atoi_some s.data.toList (List.isEmpty_iff.1 he) (fun e => by
     have : s.size = 0 := by rw [← data_length, e]; rfl
     omega)
    rw [hn]
    have HA := Lib.hid (fun W => Tryz.strconv_Atoi s n (by omega) hn W)
    clear ht ht2 he hn
    go_enter Tryz.func47, Tryz.ntmps47
    go_wp2_with (first | (go_at_call 35; refine HT.out.mono ?_; rintro e w1 ⟨rfl, hb1⟩; have HB1 := Lib.hid hb1; clear hb1) | (go_at_call 83; refine (HA.out _).mono ?_; rintro e w2 ⟨rfl, ⟨t2, rfl⟩⟩))
    go_ret
    exact ⟨rfl, bytes_below HB1.out HB1.out.size 5 _⟩
def spR (x : Nat) : Bool := x == 32 || x == 9
def behind (s : ByteArray) : ByteArray := if (Lib.cut s.data.toList [44]).2.2 = true then ⟨(Lib.cut s.data.toList [44]).2.1.toArray⟩ else s
def dateW (s : ByteArray) : List ByteArray := Lib.goFieldsP spR (behind s)
def yearF (b : ByteArray) : Int := if digitsF b 2 4 < 0 then digitsF b 2 4 else if b.size = 4 then digitsF b 2 4 else if b.size = 2 ∧ digitsF b 2 4 < 50 then wrap64 (digitsF b 2 4 + 2000) else wrap64 (digitsF b 2 4 + 1900)
set_option maxRecDepth 100000 in
set_option maxHeartbeats 1000000 in
theorem sp_calls (x : Nat) (w : World) : Calls Tryz.prog 46 #[.int .i32 (x : Int)] w fun e w' => e = .returned (.bool (spR x)) ∧ w = w' := by
 have e1 : spR x = (((x : Int) == 32) || ((x : Int) == 9)) := by
  unfold spR
  rw [Bool.eq_iff_iff]
  simp
  omega
 rw [e1]
 go_enter Tryz.func46, Tryz.ntmps46
 go_wp2
 all_goals (go_ret; refine ⟨?_, rfl⟩; simp_all)
theorem sp_enter : ∀ args w, (callFunc 46 args).run Tryz.prog w = .ok (.enter 46 args) w := enters_of Tryz.func46 (by kernel_rfl) rfl
theorem sp_pred (w : World) : PredAt Tryz.prog 46 #[] encR spR w := fun W x _ => (sp_calls x W).mono fun e w' ⟨he, hw⟩ => ⟨he, 0, by subst hw; rfl⟩
theorem fields_any (s : ByteArray) (w : World) (hs : s.size ≤ 4294967296) :
  Calls Tryz.prog 45 #[.string s, .func (.func 46) #[] #[]] w fun e w' => ∃ A, e = .returned (.slice (some ⟨A, 0, none⟩) (Lib.goFieldsP spR s).length (Lib.goFieldsP spR s).length) ∧
   (∀ j (h : j < (Lib.goFieldsP spR s).length), w'.cell? ⟨A, j, none⟩ = some (.string (Lib.goFieldsP spR s)[j])) ∧ Below w.heap.size w w' := by
 refine (Tryz.strings_FieldsFunc 46 #[] sp_enter spR s w hs (sp_pred w)).mono ?_
 rintro e w' ⟨A, rfl, _, ho, hb⟩
 refine ⟨A, rfl, fun j h => ?_, hb⟩
 have := ho.cells (g := A) rfl j (.string (Lib.goFieldsP spR s)[j]) (by simp [h])
 rwa [add_plain] at this
theorem mk_size (l : List UInt8) : (⟨l.toArray⟩ : ByteArray).size = l.length := by simp [ByteArray.size]
theorem list_size (s : ByteArray) : s.data.toList.length = s.size := data_length s
theorem cut1_len (l sep : List UInt8) : (Lib.cut l sep).1.length ≤ l.length := by unfold Lib.cut; split <;> simp; omega
theorem cut2_len (l sep : List UInt8) : (Lib.cut l sep).2.1.length ≤ l.length := by unfold Lib.cut; split <;> simp
theorem behind_size (s : ByteArray) : (behind s).size ≤ s.size := by
 unfold behind
 split
 ·
  rw [mk_size]
  have := cut2_len s.data.toList [44]
  rw [list_size] at this
  exact this
 · exact Nat.le_refl _
theorem fields_size (p : Nat → Bool) (s x : ByteArray) (h : x ∈ Lib.goFieldsP p s) : x.size ≤ s.size := by
 unfold Lib.goFieldsP at h
 obtain ⟨y, _, rfl⟩ := List.mem_map.1 h
 rw [ByteArray.size_extract]
 omega
theorem year_ways (b : ByteArray) : (digitsF b 2 4 < 0 ∧ yearF b = digitsF b 2 4) ∨ (¬ digitsF b 2 4 < 0 ∧ b.size = 4 ∧ yearF b = digitsF b 2 4) ∨
  (¬ digitsF b 2 4 < 0 ∧ b.size ≠ 4 ∧ b.size = 2 ∧ digitsF b 2 4 < 50 ∧ yearF b = wrap64 (digitsF b 2 4 + 2000)) ∨ (¬ digitsF b 2 4 < 0 ∧ b.size ≠ 4 ∧ b.size = 2 ∧ ¬ digitsF b 2 4 < 50 ∧ yearF b = wrap64 (digitsF b 2 4 + 1900)) ∨
  (¬ digitsF b 2 4 < 0 ∧ b.size ≠ 4 ∧ b.size ≠ 2 ∧ yearF b = wrap64 (digitsF b 2 4 + 1900)) := by
 unfold yearF
 by_cases h1 : digitsF b 2 4 < 0
 · exact .inl ⟨h1, by rw [if_pos h1]⟩
 ·
  refine .inr ?_
  rw [if_neg h1]
  by_cases h2 : b.size = 4
  · exact .inl ⟨h1, h2, by rw [if_pos h2]⟩
  ·
   refine .inr ?_
   rw [if_neg h2]
   by_cases h3 : b.size = 2
   ·
    by_cases h4 : digitsF b 2 4 < 50
    · exact .inl ⟨h1, h2, h3, h4, by rw [if_pos ⟨h3, h4⟩]⟩
    · exact .inr (.inl ⟨h1, h2, h3, h4, by rw [if_neg (fun h => h4 h.2)]⟩)
   · exact .inr (.inr ⟨h1, h2, h3, by rw [if_neg (fun h => h3 h.1)]⟩)
set_option maxRecDepth 100000 in
set_option maxHeartbeats 4000000 in
theorem dateMail_core (s b : ByteArray) (l : List ByteArray) (w : World) (c1 c2 : ByteArray) (c3 : Bool) (hbe : (if c3 = true then c2 else s) = b) (hbs : b.size ≤ 1073741824) (hl : Lib.goFieldsP spR b = l)
  (HC : Calls Tryz.prog 44 #[.string s, .string ⟨#[44]⟩] w fun e w' => e = .returned (.tuple #[.string c1, .string c2, .bool c3]) ∧ ∃ n, w' = w.drewN n)
  (x0 x1 x2 : ByteArray) (m r1 r2 : Int)
  (hx : 3 ≤ l.length → rdOf ByteArray.empty l (0 : Nat) = x0 ∧ rdOf ByteArray.empty l (1 : Nat) = x1 ∧ rdOf ByteArray.empty l (2 : Nat) = x2)
  (hz : x0.size ≤ 1073741824 ∧ x2.size ≤ 1073741824)
  (hshort : l.length < 3 → r1 = 0 ∧ r2 = 7)
  (HM : 3 ≤ l.length → ∀ W, Calls Tryz.prog 49 #[.string x1] W fun e w' => e = .returned (.int .i64 m) ∧ Drawn0 W w')
  (HD : 3 ≤ l.length → ∀ W, Calls Tryz.prog 48 #[.int .i64 (yearF x2), .int .i64 m, .int .i64 (digitsF x0 1 2)] W fun e w' => e = .returned (.tuple #[.int .i64 r1, .int .i64 r2]) ∧ Drawn0 W w') :
  Calls Tryz.prog 20 #[.string s] w fun e w' => e = .returned (.tuple #[.int .i64 r1, .int .i64 r2]) ∧ Below w.heap.size w w' := by
 have HCC := Lib.hid HC
 have HF := fun W => fields_any b W (by omega)
 rw [hl] at HF
 have HFF := Lib.hid HF
 have HBE := Lib.hid hbe
 have HX := Lib.hid hx
 have HZ := Lib.hid hz
 have HSH := Lib.hid hshort
 have HMM := Lib.hid HM
 have HDD := Lib.hid HD
 clear HC HF hl hbe hx hz hshort HM HD
 go_enter Tryz.func20, Tryz.ntmps20
 go_upto_if 15 with (first | (go_at_call 44; refine HCC.out.mono ?_; rintro e w1 ⟨rfl, ⟨n, rfl⟩⟩))
 go_cut [0] (fun v0 wc => v0 = .string b ∧ Hid (Below w.heap.size w wc))
 case first =>
  have hB0 := pw_below_drewN (Below.refl w.heap.size w) n
  cases c3 with
  | true =>
   have h := HBE.out
   go_wp2_with fail
   go_meet
   exact ⟨congrArg Value.string h, Lib.hid hB0⟩
  | false =>
   have h := HBE.out
   go_wp2_with fail
   go_meet
   exact ⟨congrArg Value.string h, Lib.hid hB0⟩
 case rest =>
  obtain ⟨rfl, HBa⟩ := hcut
  by_cases hsh : l.length < 3
  ·
   obtain ⟨rfl, rfl⟩ := HSH.out hsh
   have hi : (l.length : Int) < 3 := by omega
   go_wp2_with (first | (go_at_call 45; refine (HFF.out _).mono ?_; rintro e w2 ⟨A, rfl, hc, hb⟩; have HCE := Lib.hid hc; have HBB := Lib.hid hb; clear hc hb))
   go_ret2
   exact ⟨rfl, HBa.out.trans (HBB.out.mono HBa.out.size)⟩
  ·
   have hi : decide ((l.length : Int) < 3) = false := decide_eq_false (by omega)
   have hlen3 : 3 ≤ l.length := by omega
   obtain ⟨e0, e1, e2⟩ := HX.out hlen3
   have HM2 := Lib.hid (HMM.out hlen3)
   have HD2 := Lib.hid (HDD.out hlen3)
   have g0 : l[0]'(by omega) = x0 := by rw [← e0]; simp [rdOf, List.getD_eq_getElem?_getD, show 0 < l.length by omega]
   have g1 : l[1]'(by omega) = x1 := by rw [← e1]; simp [rdOf, List.getD_eq_getElem?_getD, show 1 < l.length by omega]
   have g2 : l[2]'(by omega) = x2 := by rw [← e2]; simp [rdOf, List.getD_eq_getElem?_getD, show 2 < l.length by omega]
   have G0 := Lib.hid g0
   have G1 := Lib.hid g1
   have G2 := Lib.hid g2
   have D2 := Lib.hid (fun W => digits_any x2 2 4 (by decide) (by decide) W (by have := HZ.out.2; omega))
   have D0 := Lib.hid (fun W => digits_any x0 1 2 (by decide) (by decide) W (by have := HZ.out.1; omega))
   have hli : (3 : Int) ≤ (l.length : Int) := by omega
   clear HSH HMM HDD HX e0 e1 e2 g0 g1 g2
   have HW := Lib.hid (year_ways x2)
   obtain ⟨yy, hyy⟩ : ∃ y, yearF x2 = y := ⟨_, rfl⟩
   obtain ⟨y, hy⟩ : ∃ y, digitsF x2 2 4 = y := ⟨_, rfl⟩
   obtain ⟨d, hd⟩ : ∃ d, digitsF x0 1 2 = d := ⟨_, rfl⟩
   rw [hy, hyy] at HW
   rw [hyy, hd] at HD2
   rw [hy] at D2
   rw [hd] at D0
   clear hy hd hyy
   go_upto_block 0 with (first | (go_at_call 45; refine (HFF.out _).mono ?_; rintro e w2 ⟨A, rfl, hc, hb⟩; have q0 := hc 0 (by omega); have q1 := hc 1 (by omega); have q2 := hc 2 (by omega); rw [G0.out] at q0; rw [G1.out] at q1; rw [G2.out] at q2; have HBB := Lib.hid (HBa.out.trans (hb.mono HBa.out.size)); clear hc hb) | (go_at_call 47; refine (D2.out _).mono ?_; rintro e w3 ⟨rfl, hb3⟩; have p0 := pw_cell_below hb3 q0; have p1 := pw_cell_below hb3 q1; have p2 := pw_cell_below hb3 q2; have HB3 := Lib.hid (HBB.out.trans (hb3.mono HBB.out.size)); clear hb3 q0 q1 q2))
   go_cut [8] (fun v8 wc => v8 = .int .i64 yy ∧ Hid (wc.cell? ⟨A, 0, none⟩ = some (.string x0)) ∧ Hid (wc.cell? ⟨A, 1, none⟩ = some (.string x1)) ∧ Hid (Below w.heap.size w wc))
   case first =>
    have P0 := Lib.hid p0
    have P1 := Lib.hid p1
    have fin : ∀ (v : Int), v = yy → Value.int .i64 v = .int .i64 yy ∧ Hid (w3.cell? ⟨A, 0, none⟩ = some (.string x0)) ∧ Hid (w3.cell? ⟨A, 1, none⟩ = some (.string x1)) ∧ Hid (Below w.heap.size w w3) := fun v h => ⟨by rw [h], P0, P1, HB3⟩
    have FIN := Lib.hid fin
    clear fin p0 p1
    rcases HW.out with ⟨t1, ey⟩ | ⟨t1, t2, ey⟩ | ⟨t1, t2, t3, t4, ey⟩ | ⟨t1, t2, t3, t4, ey⟩ | ⟨t1, t2, t3, ey⟩
    ·
     have E := Lib.hid ey.symm
     have u1 : decide (y < 0) = true := decide_eq_true t1
     clear ey t1
     go_wp2_with fail
     go_meet
     exact FIN.out _ E.out
    ·
     have E := Lib.hid ey.symm
     have u1 : decide (y < 0) = false := decide_eq_false (by omega)
     have u2 : (x2.size : Int) = 4 := by omega
     clear ey t1 t2
     go_wp2_with fail
     go_meet
     exact FIN.out _ E.out
    ·
     have E := Lib.hid ey.symm
     have u1 : decide (y < 0) = false := decide_eq_false (by omega)
     have u3 : (x2.size : Int) = 2 := by omega
     have u4 : decide (y < 50) = true := decide_eq_true t4
     clear ey t1 t2 t3 t4
     go_wp2_with fail
     go_meet
     exact FIN.out _ E.out
    ·
     have E := Lib.hid ey.symm
     have u1 : decide (y < 0) = false := decide_eq_false (by omega)
     have u3 : (x2.size : Int) = 2 := by omega
     have u4 : decide (y < 50) = false := decide_eq_false (by omega)
     clear ey t1 t2 t3 t4
     go_wp2_with fail
     go_meet
     exact FIN.out _ E.out
    ·
     have E := Lib.hid ey.symm
     have u1 : decide (y < 0) = false := decide_eq_false (by omega)
     have u2 : ((x2.size : Int) == 4) = false := by simp; omega
     have u3 : ((x2.size : Int) == 2) = false := by simp; omega
     clear ey t1 t2 t3
     go_wp2_with fail
     go_meet
     exact FIN.out _ E.out
   case rest =>
    obtain ⟨rfl, P0, P1, HBc⟩ := hcut
    have p0 := P0.out
    have p1 := P1.out
    clear HW D2 G0 G1 G2 HFF HCC HBE
    go_wp2_with fail
    go_region_with (first | (go_at_call 49; refine (HM2.out _).mono ?_; rintro e w5 ⟨rfl, ⟨⟨n5, rfl⟩⟩⟩) | (go_at_call 47; refine (D0.out _).mono ?_; rintro e w6 ⟨rfl, hb6⟩; have r1_ := pw_cell_below hb6 (show _ = _ from p1); have HB6 := Lib.hid hb6; clear hb6) | (go_at_call 48; refine (HD2.out _).mono ?_; rintro e w7 ⟨rfl, ⟨⟨n7, rfl⟩⟩⟩))
    all_goals (go_wp2_with fail; go_ret2; refine ⟨rfl, ?_⟩; (repeat (first | with_reducible apply pw_below_drewN | with_reducible apply below_drew)); refine below_then ?_ ?_ HB6.out <;> first | (exact HBc.out.size) | (exact pw_below_drewN HBc.out _) | (exact HBc.out) | (repeat (first | exact HBc.out | apply pw_below_drewN | apply below_drew)))
end Go.Proofs.YtigcbajcifhinaaGreatDoor.Txt
