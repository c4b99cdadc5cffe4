/-
  What the row's list says of the two package variables; a world for the witness.
-/
import Derived.Test.YtkhakddecmgejaaDoorRows
import Derived.Test.YtkhakddecmgejaaDoorArr
import Derived.WalkKit
import Derived.ProofKit
import Derived.OpenShut
import Derived.Deep.DeepHandedRow
import Derived.Lib.LaidTab
import Derived.Stop.LaidErr
import Derived.MakeChecks
namespace Go.Proofs.YtkhakddecmgejaaDoor
open Go.ChangeShapes Go.WideShapes Go.ChangeAt Go.RowKit
set_option linter.unusedVariables false
set_option linter.unusedSimpArgs false

theorem own : ownKnob Tryd.prog.godebug = none := by kernel_rfl
theorem gFirst : Tryd.prog.globalNamed "tryst/digest.first" = some 0 := by kernel_rfl
theorem gTable : Tryd.prog.globalNamed "tryst/digest.table" = some 1 := by kernel_rfl
theorem tFirst : (Tryd.prog.globals[0]?).map (·.type) = some 92 := by kernel_rfl
theorem tTable : (Tryd.prog.globals[1]?).map (·.type) = some 105 := by kernel_rfl
theorem cFirst : Tryd.prog.cellsOf 92 = 8 := by kernel_rfl
theorem cTable : Tryd.prog.cellsOf 105 = 64 := by kernel_rfl
theorem cWord : Tryd.prog.cellsOf 91 = 1 := by kernel_rfl
def hZ : List Int := [1779033703, 3144134277, 1013904242, 2773480762, 1359893119, 2600822924, 528734635, 1541459225]
def kZ : List Int := [1116352408, 1899447441, 3049323471, 3921009573, 961987163, 1508970993, 2453635748, 2870763221, 3624381080, 310598401, 607225278, 1426881987, 1925078388, 2162078206, 2614888103, 3248222580, 3835390401, 4022224774, 264347078, 604807628, 770255983, 1249150122, 1555081692, 1996064986, 2554220882, 2821834349, 2952996808, 3210313671, 3336571891, 3584528711, 113926993, 338241895, 666307205, 773529912, 1294757372, 1396182291, 1695183700, 1986661051, 2177026350, 2456956037, 2730485921, 2820302411, 3259730800, 3345764771, 3516065817, 3600352804, 4094571909, 275423344, 430227734, 506948616, 659060556, 883997877, 958139571, 1322822218, 1537002063, 1747873779, 1955562222, 2024104815, 2227730452, 2361852424, 2428436474, 2756734187, 3204031479, 3329325298]
/-- what every row of the seat lists -/
def laidList : List (String × DataW Unit) := [("tryst/digest.first", Rows.laid_tryst_digest_first), ("tryst/digest.table", Rows.laid_tryst_digest_table)]
theorem hZ_eq : hZ = hTab.map u := by decide +kernel
theorem kZ_eq : kZ = kTab.map u := by decide +kernel
theorem tab_ok {W : World} (h : laidMetH Tryd.prog laidList W) : TabOk W := by
  rw [MakeChecks.laidMetH_plain _ _ _ (by kernel_rfl)] at h
  have e1 : (Rows.laid_tryst_digest_first : DataW Unit) = Lib.tabData .u32 hZ := rfl
  have e2 : (Rows.laid_tryst_digest_table : DataW Unit) = Lib.tabData .u32 kZ := rfl
  unfold laidList at h
  rw [e1, e2] at h
  have t1 := Lib.tabIs_of_head gFirst tFirst Tryd.underlying92 Tryd.underlying91 cWord cFirst h
  have t2 := Lib.tabIs_of_head gTable tTable Tryd.underlying105 Tryd.underlying91 cWord cTable h.tail
  refine ⟨fun i hi => ?_, fun i hi => ?_⟩
  · have := t2.cell gTable i (by rw [kZ_eq]; simpa [kTab] using hi)
    rw [this, kZ_eq]
    have hk : i < kTab.length := hi
    simp only [kw, List.getD_eq_getElem?_getD, List.getElem?_map, List.getElem?_eq_getElem hk, Option.map_some, Option.getD_some]
  · have := t1.cell gFirst i (by rw [hZ_eq]; simpa [hTab] using hi)
    rw [this, hZ_eq]
    have hk : i < hTab.length := hi
    simp only [h0, List.getD_eq_getElem?_getD, List.getElem?_map, List.getElem?_eq_getElem hk, Option.map_some, Option.getD_some]

def putCells (cs : Array Value) : Obj → Obj
  | .cells _ t frozen => .cells cs t frozen
  | o => o
/-- a world for the witness: the settled one, the two tables holding what their initialisers lay -/
noncomputable def laidWorld (os : Os) : World :=
  { World.holding Tryd.prog os ⟨#[], #[], []⟩ with heap := ((World.holding Tryd.prog os ⟨#[], #[], []⟩).heap.modify 0 (putCells #[.int .u32 1779033703, .int .u32 3144134277, .int .u32 1013904242, .int .u32 2773480762, .int .u32 1359893119, .int .u32 2600822924, .int .u32 528734635, .int .u32 1541459225])).modify 1 (putCells #[.int .u32 1116352408, .int .u32 1899447441, .int .u32 3049323471, .int .u32 3921009573, .int .u32 961987163, .int .u32 1508970993, .int .u32 2453635748, .int .u32 2870763221, .int .u32 3624381080, .int .u32 310598401, .int .u32 607225278, .int .u32 1426881987, .int .u32 1925078388, .int .u32 2162078206, .int .u32 2614888103, .int .u32 3248222580, .int .u32 3835390401, .int .u32 4022224774, .int .u32 264347078, .int .u32 604807628, .int .u32 770255983, .int .u32 1249150122, .int .u32 1555081692, .int .u32 1996064986, .int .u32 2554220882, .int .u32 2821834349, .int .u32 2952996808, .int .u32 3210313671, .int .u32 3336571891, .int .u32 3584528711, .int .u32 113926993, .int .u32 338241895, .int .u32 666307205, .int .u32 773529912, .int .u32 1294757372, .int .u32 1396182291, .int .u32 1695183700, .int .u32 1986661051, .int .u32 2177026350, .int .u32 2456956037, .int .u32 2730485921, .int .u32 2820302411, .int .u32 3259730800, .int .u32 3345764771, .int .u32 3516065817, .int .u32 3600352804, .int .u32 4094571909, .int .u32 275423344, .int .u32 430227734, .int .u32 506948616, .int .u32 659060556, .int .u32 883997877, .int .u32 958139571, .int .u32 1322822218, .int .u32 1537002063, .int .u32 1747873779, .int .u32 1955562222, .int .u32 2024104815, .int .u32 2227730452, .int .u32 2361852424, .int .u32 2428436474, .int .u32 2756734187, .int .u32 3204031479, .int .u32 3329325298]) }
end Go.Proofs.YtkhakddecmgejaaDoor
