/- The closed facts of the program that all rows ask for. -/
import Derived.Test.YtnpggmdpokcakaaGreatDoorRows
import Derived.ProofKit
import Derived.OpenShut
import Derived.Stop.Joined
import Derived.JoinedOf
namespace Go.Proofs.YtnpggmdpokcakaaGreatDoor
open Go
set_option maxRecDepth 100000
def ioNums : List Nat := [104, 97, 114, 110, 101, 115, 115, 32, 51, 53, 100, 52, 52, 52, 57, 56, 49, 99, 50, 97, 102, 55, 98, 53, 54, 100, 97, 49, 98, 51, 57, 97, 57, 52, 101, 57, 54, 98, 50, 98, 101, 55, 48, 56, 53, 98, 97, 51, 97, 48, 57, 50, 101, 97, 102, 102, 101, 50, 49, 97, 56, 101, 98, 57, 54, 54, 98, 57, 98, 97, 50, 51, 32, 99, 117, 116, 32, 97, 116, 32, 115, 110, 111, 119, 108, 105, 110, 101, 47, 115, 110, 111, 119, 108, 105, 110, 101, 108, 97, 119, 48, 54, 46, 83, 112, 114, 105, 110, 103, 67, 104, 101, 99, 107, 83, 112, 101, 99, 32, 115, 110, 111, 119, 108, 105, 110, 101, 47, 115, 110, 111, 119, 108, 105, 110, 101, 108, 97, 119, 48, 54, 46, 83, 112, 114, 105, 110, 103, 72, 101, 105, 103, 104, 116, 83, 112, 101, 99, 32, 115, 110, 111, 119, 108, 105, 110, 101, 47, 115, 110, 111, 119, 108, 105, 110, 101, 108, 97, 119, 48, 54, 46, 83, 112, 114, 105, 110, 103, 71, 97, 112, 83, 112, 101, 99, 32, 115, 110, 111, 119, 108, 105, 110, 101, 47, 115, 110, 111, 119, 108, 105, 110, 101, 108, 97, 119, 48, 54, 46, 83, 112, 114, 105, 110, 103, 82, 101, 108, 101, 97, 115, 101, 83, 112, 101, 99, 32, 115, 110, 111, 119, 108, 105, 110, 101, 47, 115, 110, 111, 119, 108, 105, 110, 101, 108, 97, 119, 48, 54, 46, 83, 112, 114, 105, 110, 103, 87, 104, 101, 110, 83, 112, 101, 99, 32, 115, 110, 111, 119, 108, 105, 110, 101, 47, 115, 110, 111, 119, 108, 105, 110, 101, 108, 97, 119, 48, 54, 46, 83, 112, 114, 105, 110, 103, 71, 97, 112, 115, 32, 115, 110, 111, 119, 108, 105, 110, 101, 47, 115, 110, 111, 119, 108, 105, 110, 101, 108, 97, 119, 48, 54, 46, 83, 112, 114, 105, 110, 103, 66, 111, 117, 110, 100, 101, 100, 32, 115, 110, 111, 119, 108, 105, 110, 101, 47, 115, 110, 111, 119, 108, 105, 110, 101, 108, 97, 119, 48, 54, 46, 83, 112, 114, 105, 110, 103, 66, 97, 108, 97, 110, 99, 101, 32, 115, 110, 111, 119, 108, 105, 110, 101, 47, 115, 110, 111, 119, 108, 105, 110, 101, 108, 97, 119, 48, 54, 46, 83, 112, 114, 105, 110, 103, 77, 111, 114, 101, 32, 115, 110, 111, 119, 108, 105, 110, 101, 47, 115, 110, 111, 119, 108, 105, 110, 101, 108, 97, 119, 48, 54, 46, 83, 112, 114, 105, 110, 103, 80, 97, 114, 116, 115, 32, 115, 110, 111, 119, 108, 105, 110, 101, 47, 115, 110, 111, 119, 108, 105, 110, 101, 108, 97, 119, 48, 54, 46, 83, 112, 114, 105, 110, 103, 72, 101, 105, 103, 104, 116, 115, 32, 115, 110, 111, 119, 108, 105, 110, 101, 47, 115, 110, 111, 119, 108, 105, 110, 101, 108, 97, 119, 48, 54, 46, 83, 112, 114, 105, 110, 103, 87, 104, 101, 110, 32, 115, 110, 111, 119, 108, 105, 110, 101, 47, 115, 110, 111, 119, 108, 105, 110, 101, 108, 97, 119, 48, 54, 46, 83, 112, 114, 105, 110, 103, 67, 104, 97, 110, 103, 101, 83, 112, 101, 99, 32, 115, 110, 111, 119, 108, 105, 110, 101, 47, 115, 110, 111, 119, 108, 105, 110, 101, 108, 97, 119, 48, 54, 46, 83, 112, 114, 105, 110, 103, 67, 97, 114, 114, 105, 101, 100, 32, 115, 110, 111, 119, 108, 105, 110, 101, 47, 115, 110, 111, 119, 108, 105, 110, 101, 108, 97, 119, 48, 54, 46, 83, 112, 114, 105, 110, 103, 86, 111, 108, 117, 109, 101, 83, 112, 101, 99, 32, 115, 110, 111, 119, 108, 105, 110, 101, 47, 115, 110, 111, 119, 108, 105, 110, 101, 108, 97, 119, 48, 54, 46, 83, 112, 114, 105, 110, 103, 76, 101, 102, 116, 83, 112, 101, 99, 32, 115, 110, 111, 119, 108, 105, 110, 101, 47, 115, 110, 111, 119, 108, 105, 110, 101, 108, 97, 119, 48, 54, 46, 83, 112, 114, 105, 110, 103, 86, 111, 108, 117, 109, 101, 115, 32, 115, 110, 111, 119, 108, 105, 110, 101, 47, 115, 110, 111, 119, 108, 105, 110, 101, 108, 97, 119, 48, 54, 46, 83, 112, 114, 105, 110, 103, 84, 101, 120, 116, 115, 32, 115, 110, 111, 119, 108, 105, 110, 101, 47, 115, 110, 111, 119, 108, 105, 110, 101, 108, 97, 119, 48, 54, 46, 83, 112, 114, 105, 110, 103, 78, 97, 114, 114, 111, 119, 101, 114]
def ioCh : List Char := ioNums.map Char.ofNat
theorem io_eq : Tryz.prog.initOrder = String.ofList ioCh := by kernel_rfl
theorem io_list : Tryz.prog.initOrder.toList = ioCh := by rw [io_eq, String.toList_ofList]
theorem io_words : behindMainWord (wordsSigns ioCh) = "cut".toList :: "at".toList :: wordsSigns (ioCh.drop 80) := by kernel_rfl
theorem head_words : behindMainWord (wordsSigns Tryz.prog.initOrder.toList) = "cut".toList :: "at".toList :: wordsSigns (ioCh.drop 80) := (congrArg (fun l => behindMainWord (wordsSigns l)) io_list).trans io_words
theorem strip_words (r : List (List Char)) : stripLifts liftWords ("cut".toList :: "at".toList :: r) = ([], "cut".toList :: "at".toList :: r) := by kernel_rfl
theorem jA : Tryz.prog.laysLater = false := by kernel_rfl
theorem jB : Tryz.prog.bearsReflect = false := by kernel_rfl
theorem jC : Tryz.prog.doorFits [] = true := by kernel_rfl
theorem may_of {P : Program} {c : List Char} {rest : List (List Char)} (h : behindMainWord (wordsSigns P.initOrder.toList) = c :: rest) (h3 : stripLifts liftWords (c :: rest) = ([], c :: rest)) (h4 : ((c :: rest).head? == some "cut".toList) = true)
    (hA : P.laysLater = false) (hB : P.bearsReflect = false) (hC : P.doorFits [] = true) : P.mayEnter = true := by
  unfold Program.mayEnter
  rw [h]
  simp only [h3, h4, hA, hB, hC]
  simp
theorem head_cut (r : List (List Char)) : (("cut".toList :: "at".toList :: r).head? == some "cut".toList) = true := by kernel_rfl
theorem may_enter : Tryz.prog.mayEnter = true := may_of head_words (strip_words _) (head_cut _) jA jB jC
theorem lifts_of {P : Program} {c : List Char} {rest : List (List Char)} (h : behindMainWord (wordsSigns P.initOrder.toList) = c :: rest) (h3 : stripLifts liftWords (c :: rest) = ([], c :: rest)) (hc : (some c == some "carried".toList) = false) : P.liftsFinal = false := by
  unfold Program.liftsFinal Program.headLifts
  rw [h]
  simp only [h3, List.head?_cons, hc]
  simp
theorem not_carried : (some "cut".toList == some "carried".toList) = false := by kernel_rfl
theorem lifts_final : Tryz.prog.liftsFinal = false := lifts_of head_words (strip_words _) not_carried
theorem make_of {P : Program} {c : List Char} {rest : List (List Char)} (h : behindMainWord (wordsSigns P.initOrder.toList) = c :: rest) (h1 : (c == "gc".toList || c == "spec".toList) = false) (h2 : (c == "cut".toList) = true) : P.make = some .cut := by
  unfold Program.make
  rw [h]
  simp only [h1, h2]
  simp
theorem prog_make : Tryz.prog.make = some .cut := make_of head_words (by kernel_rfl) (by kernel_rfl)
theorem joined_of {P : Program} {f : FuncId} {fn : Func} {s : ChangeSpec} {c : OpenClaim} (k0 : (c.wf (OpenSpec.ofChange s)) = true) (k1 : (laidOutB P) = true) (k2 : (mapsRowed P) = true) (k3 : (fn.params.all (P.readableRec ·)) = true) (k4 : (namedTie P c.named s.vars) = true) (k5 : ((c.stops == [])) = true) (k6 : ((P.stops == [])) = true) (k7 : ((c.knobs == [])) = true) (k8 : ((P.stopKnobs == [])) = true) (k9 : ((c.inPlace == P.inPlace f)) = true) (k10 : ((c.unfollowed == P.unfollowed f)) = true) (k11 : ((c.recurses == P.recurses f)) = true) (k12 : ((c.named == P.varsNamed f)) = true) (k13 : ((c.maps == (fn.params.toList ++ s.plain.varTypes P).any (P.mapsRec ·))) = true) (k14 : ((c.ifaces == (fn.params.toList ++ s.plain.varTypes P).any (P.ifacesRec ·))) = true) (k15 : ((c.mapsOut == P.mapsAmong fn.resultTypes.toList)) = true) (k16 : ((c.loops == (fn.params.toList ++ s.plain.varTypes P).any (P.loopsFrom ·))) = true) (k17 : ((c.wideKeys == (fn.params.toList ++ s.plain.varTypes P ++ fn.resultTypes.toList).any (P.wideKeysFrom ·))) = true) (k18 : (s.vars.all (P.varReadable ·)) = true) (k19 : (fn.resultTypes.all (fun t => P.readableRec t && decide (t < P.types.size))) = true) (k20 : ((c.ifacesOut == fn.resultTypes.toList.any (P.ifacesRec ·))) = true) (k21 : ((c.loopsOut == fn.resultTypes.toList.any (P.loopsFrom ·))) = true) (k22 : ((c.plainKeys == P.plainKeys)) = true) (k23 : (c.shortTexts.isNone) = true) (k24 : (P.stopsHeard) = true) (k25 : (P.mayEnter) = true) (k26 : ((c.lifted == P.liftsFinal)) = true) (k27 : ((P.make == some c.make)) = true) (k28 : ((c.kinds == (if c.domain.isEmpty then [] else fn.params.toList.map fun t => match P.underlying t with | some (.int k) => some k | _ => none))) = true) (k29 : ((c.pinned == c.pinnedBy)) = true) (k30 : ((c.veiled == (fn.params.toList ++ s.plain.varTypes P ++ fn.resultTypes.toList).any (P.veiledRec ·))) = true) (k31 : (c.veiledFits P fn.params.toList (fn.params.toList ++ s.plain.varTypes P ++ fn.resultTypes.toList)) = true) : joinedFacts P f fn s c = true := by
  unfold joinedFacts
  simp only [Bool.and_eq_true]
  exact ⟨⟨⟨⟨⟨⟨⟨⟨⟨⟨⟨⟨⟨⟨⟨⟨⟨⟨⟨⟨⟨⟨⟨⟨⟨⟨⟨⟨⟨⟨⟨k0, k1⟩, k2⟩, k3⟩, k4⟩, k5⟩, k6⟩, k7⟩, k8⟩, k9⟩, k10⟩, k11⟩, k12⟩, k13⟩, k14⟩, k15⟩, k16⟩, k17⟩, k18⟩, k19⟩, k20⟩, k21⟩, k22⟩, k23⟩, k24⟩, k25⟩, k26⟩, k27⟩, k28⟩, k29⟩, k30⟩, k31⟩
theorem glob1 : (laidOutB Tryz.prog) = true := by kernel_rfl
theorem glob2 : (mapsRowed Tryz.prog) = true := by kernel_rfl
theorem glob6 : ((Tryz.prog.stops == [])) = true := by kernel_rfl
theorem glob8 : ((Tryz.prog.stopKnobs == [])) = true := by kernel_rfl
theorem glob24 : (Tryz.prog.stopsHeard) = true := by kernel_rfl
theorem glob25 : (Tryz.prog.mayEnter) = true := may_enter
end Go.Proofs.YtnpggmdpokcakaaGreatDoor
