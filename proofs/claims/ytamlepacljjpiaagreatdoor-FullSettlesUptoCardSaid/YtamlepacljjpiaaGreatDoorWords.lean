/- What the program's first words say, letter by letter: three closed facts over them. -/
import Derived.Test.YtamlepacljjpiaaGreatDoorGbase
namespace Go.Proofs.YtamlepacljjpiaaGreatDoor
set_option linter.unusedVariables false
def firstWords : List Char := [Char.ofNat 104, Char.ofNat 97, Char.ofNat 114, Char.ofNat 110, Char.ofNat 101, Char.ofNat 115, Char.ofNat 115, Char.ofNat 32, Char.ofNat 102, Char.ofNat 100, Char.ofNat 52, Char.ofNat 97, Char.ofNat 52, Char.ofNat 49, Char.ofNat 56, Char.ofNat 100, Char.ofNat 56, Char.ofNat 97, Char.ofNat 101, Char.ofNat 53, Char.ofNat 55, Char.ofNat 55, Char.ofNat 99, Char.ofNat 48, Char.ofNat 54, Char.ofNat 55, Char.ofNat 50, Char.ofNat 52, Char.ofNat 56, Char.ofNat 53, Char.ofNat 49, Char.ofNat 52, Char.ofNat 99, Char.ofNat 51, Char.ofNat 98, Char.ofNat 51, Char.ofNat 98, Char.ofNat 99, Char.ofNat 53, Char.ofNat 55, Char.ofNat 98, Char.ofNat 56, Char.ofNat 55, Char.ofNat 48, Char.ofNat 100, Char.ofNat 52, Char.ofNat 50, Char.ofNat 100, Char.ofNat 51, Char.ofNat 102, Char.ofNat 100, Char.ofNat 48, Char.ofNat 51, Char.ofNat 53, Char.ofNat 98, Char.ofNat 102, Char.ofNat 102, Char.ofNat 98, Char.ofNat 100, Char.ofNat 57, Char.ofNat 99, Char.ofNat 56, Char.ofNat 49, Char.ofNat 99, Char.ofNat 54, Char.ofNat 57, Char.ofNat 48, Char.ofNat 100, Char.ofNat 54, Char.ofNat 54, Char.ofNat 51, Char.ofNat 100, Char.ofNat 32, Char.ofNat 99, Char.ofNat 117, Char.ofNat 116, Char.ofNat 32, Char.ofNat 97, Char.ofNat 116, Char.ofNat 32, Char.ofNat 113, Char.ofNat 117, Char.ofNat 97, Char.ofNat 121, Char.ofNat 109, Char.ofNat 97, Char.ofNat 115, Char.ofNat 116, Char.ofNat 101, Char.ofNat 114, Char.ofNat 47, Char.ofNat 113, Char.ofNat 117, Char.ofNat 97, Char.ofNat 121, Char.ofNat 109, Char.ofNat 97, Char.ofNat 115, Char.ofNat 116, Char.ofNat 101, Char.ofNat 114, Char.ofNat 107, Char.ofNat 101, Char.ofNat 101, Char.ofNat 112, Char.ofNat 46, Char.ofNat 70, Char.ofNat 117, Char.ofNat 108, Char.ofNat 108, Char.ofNat 67, Char.ofNat 111, Char.ofNat 117, Char.ofNat 110, Char.ofNat 116, Char.ofNat 115, Char.ofNat 32, Char.ofNat 113, Char.ofNat 117, Char.ofNat 97, Char.ofNat 121, Char.ofNat 109, Char.ofNat 97, Char.ofNat 115, Char.ofNat 116, Char.ofNat 101, Char.ofNat 114, Char.ofNat 47, Char.ofNat 113, Char.ofNat 117, Char.ofNat 97, Char.ofNat 121, Char.ofNat 109, Char.ofNat 97, Char.ofNat 115, Char.ofNat 116, Char.ofNat 101, Char.ofNat 114, Char.ofNat 107, Char.ofNat 101, Char.ofNat 101, Char.ofNat 112, Char.ofNat 46, Char.ofNat 70, Char.ofNat 117, Char.ofNat 108, Char.ofNat 108, Char.ofNat 67, Char.ofNat 108, Char.ofNat 111, Char.ofNat 115, Char.ofNat 101, Char.ofNat 115, Char.ofNat 32, Char.ofNat 113, Char.ofNat 117, Char.ofNat 97, Char.ofNat 121, Char.ofNat 109, Char.ofNat 97, Char.ofNat 115, Char.ofNat 116, Char.ofNat 101, Char.ofNat 114, Char.ofNat 47, Char.ofNat 113, Char.ofNat 117, Char.ofNat 97, Char.ofNat 121, Char.ofNat 109, Char.ofNat 97, Char.ofNat 115, Char.ofNat 116, Char.ofNat 101, Char.ofNat 114, Char.ofNat 107, Char.ofNat 101, Char.ofNat 101, Char.ofNat 112, Char.ofNat 46, Char.ofNat 70, Char.ofNat 117, Char.ofNat 108, Char.ofNat 108, Char.ofNat 84, Char.ofNat 111, Char.ofNat 108, Char.ofNat 100, Char.ofNat 32, Char.ofNat 113, Char.ofNat 117, Char.ofNat 97, Char.ofNat 121, Char.ofNat 109, Char.ofNat 97, Char.ofNat 115, Char.ofNat 116, Char.ofNat 101, Char.ofNat 114, Char.ofNat 47, Char.ofNat 113, Char.ofNat 117, Char.ofNat 97, Char.ofNat 121, Char.ofNat 109, Char.ofNat 97, Char.ofNat 115, Char.ofNat 116, Char.ofNat 101, Char.ofNat 114, Char.ofNat 107, Char.ofNat 101, Char.ofNat 101, Char.ofNat 112, Char.ofNat 46, Char.ofNat 70, Char.ofNat 117, Char.ofNat 108, Char.ofNat 108, Char.ofNat 76, Char.ofNat 105, Char.ofNat 115, Char.ofNat 116, Char.ofNat 115, Char.ofNat 32, Char.ofNat 113, Char.ofNat 117, Char.ofNat 97, Char.ofNat 121, Char.ofNat 109, Char.ofNat 97, Char.ofNat 115, Char.ofNat 116, Char.ofNat 101, Char.ofNat 114, Char.ofNat 47, Char.ofNat 113, Char.ofNat 117, Char.ofNat 97, Char.ofNat 121, Char.ofNat 109, Char.ofNat 97, Char.ofNat 115, Char.ofNat 116, Char.ofNat 101, Char.ofNat 114, Char.ofNat 107, Char.ofNat 101, Char.ofNat 101, Char.ofNat 112, Char.ofNat 46, Char.ofNat 70, Char.ofNat 117, Char.ofNat 108, Char.ofNat 108, Char.ofNat 79, Char.ofNat 110, Char.ofNat 101, Char.ofNat 32, Char.ofNat 113, Char.ofNat 117, Char.ofNat 97, Char.ofNat 121, Char.ofNat 109, Char.ofNat 97, Char.ofNat 115, Char.ofNat 116, Char.ofNat 101, Char.ofNat 114, Char.ofNat 47, Char.ofNat 113, Char.ofNat 117, Char.ofNat 97, Char.ofNat 121, Char.ofNat 109, Char.ofNat 97, Char.ofNat 115, Char.ofNat 116, Char.ofNat 101, Char.ofNat 114, Char.ofNat 107, Char.ofNat 101, Char.ofNat 101, Char.ofNat 112, Char.ofNat 46, Char.ofNat 70, Char.ofNat 117, Char.ofNat 108, Char.ofNat 108, Char.ofNat 80, Char.ofNat 97, Char.ofNat 114, Char.ofNat 116, Char.ofNat 115, Char.ofNat 32, Char.ofNat 113, Char.ofNat 117, Char.ofNat 97, Char.ofNat 121, Char.ofNat 109, Char.ofNat 97, Char.ofNat 115, Char.ofNat 116, Char.ofNat 101, Char.ofNat 114, Char.ofNat 47, Char.ofNat 113, Char.ofNat 117, Char.ofNat 97, Char.ofNat 121, Char.ofNat 109, Char.ofNat 97, Char.ofNat 115, Char.ofNat 116, Char.ofNat 101, Char.ofNat 114, Char.ofNat 107, Char.ofNat 101, Char.ofNat 101, Char.ofNat 112, Char.ofNat 46, Char.ofNat 70, Char.ofNat 117, Char.ofNat 108, Char.ofNat 108, Char.ofNat 65, Char.ofNat 103, Char.ofNat 97, Char.ofNat 105, Char.ofNat 110, Char.ofNat 32, Char.ofNat 113, Char.ofNat 117, Char.ofNat 97, Char.ofNat 121, Char.ofNat 109, Char.ofNat 97, Char.ofNat 115, Char.ofNat 116, Char.ofNat 101, Char.ofNat 114, Char.ofNat 47, Char.ofNat 113, Char.ofNat 117, Char.ofNat 97, Char.ofNat 121, Char.ofNat 109, Char.ofNat 97, Char.ofNat 115, Char.ofNat 116, Char.ofNat 101, Char.ofNat 114, Char.ofNat 107, Char.ofNat 101, Char.ofNat 101, Char.ofNat 112, Char.ofNat 46, Char.ofNat 70, Char.ofNat 117, Char.ofNat 108, Char.ofNat 108, Char.ofNat 83, Char.ofNat 101, Char.ofNat 116, Char.ofNat 116, Char.ofNat 108, Char.ofNat 101, Char.ofNat 115]
def firstText : String :=
  "harness fd4a418d8ae577c067248514c3b3bc57b870d42d3fd035bffbd9c81c690d663d cut at quaymaster/quaymasterkeep.FullCounts quaymaster/quaymasterkeep.FullCloses quaymaster/quaymasterkeep.FullTold quaymaster/quaymasterkeep.FullLists quaymaster/quaymasterkeep.FullOne quaymaster/quaymasterkeep.FullParts quaymaster/quaymasterkeep.FullAgain quaymaster/quaymasterkeep.FullSettles"
theorem make_of {P : Program} {rest : List (List Char)} (h : behindMainWord (wordsSigns P.initOrder.toList) = "cut".toList :: rest) : P.make = some .cut := by
  unfold Program.make
  rw [h]
  simp
theorem lifts_of {P : Program} {rest : List (List Char)} (h : behindMainWord (wordsSigns P.initOrder.toList) = "cut".toList :: rest) (hs : (stripLifts liftWords ("cut".toList :: rest)).1 = []) : P.liftsFinal = false := by
  unfold Program.liftsFinal Program.headLifts
  rw [h]
  simp only [hs]
  simp
theorem enter_of {P : Program} {rest : List (List Char)} (h : behindMainWord (wordsSigns P.initOrder.toList) = "cut".toList :: rest) (hs : (stripLifts liftWords ("cut".toList :: rest)).1 = []) (hc : (stripLifts liftWords ("cut".toList :: rest)).2.head? = some "cut".toList)
    (h1 : P.laysLater = false) (h2 : P.bearsReflect = false) (h3 : P.doorFits [] = true) : P.mayEnter = true := by
  unfold Program.mayEnter
  rw [h]
  simp only
  rw [hs, hc, h1, h2, h3]
  simp
set_option maxRecDepth 100000 in
theorem first_text : firstText = String.ofList firstWords := by
  unfold firstText firstWords
  rfl
theorem first_list : Tryz.prog.initOrder.toList = firstWords := by
  rw [show Tryz.prog.initOrder = firstText by kernel_rfl, first_text, String.toList_ofList]
def restWords : List (List Char) := (behindMainWord (wordsSigns firstWords)).tail
set_option maxRecDepth 100000 in
theorem first_form : behindMainWord (wordsSigns firstWords) = (behindMainWord (wordsSigns firstWords)).headD [] :: restWords := by kernel_rfl
set_option maxRecDepth 100000 in
theorem first_cut : (behindMainWord (wordsSigns firstWords)).headD [] = "cut".toList := by kernel_rfl
theorem first_all : behindMainWord (wordsSigns Tryz.prog.initOrder.toList) = "cut".toList :: restWords := by
  rw [first_list, first_form, first_cut]
set_option maxRecDepth 100000 in
theorem first_strip : (stripLifts liftWords ("cut".toList :: restWords)).1 = [] := by kernel_rfl
set_option maxRecDepth 100000 in
theorem first_next : (stripLifts liftWords ("cut".toList :: restWords)).2.head? = some "cut".toList := by kernel_rfl
theorem no_later : Tryz.prog.laysLater = false := by kernel_rfl
theorem no_reflect : Tryz.prog.bearsReflect = false := by kernel_rfl
theorem door_fits : Tryz.prog.doorFits [] = true := by kernel_rfl
theorem may_enter : Tryz.prog.mayEnter = true := enter_of first_all first_strip first_next no_later no_reflect door_fits
theorem lifts_final : Tryz.prog.liftsFinal = false := lifts_of first_all first_strip
theorem make_cut : Tryz.prog.make = some .cut := make_of first_all
theorem main_of {P : Program} {a s : List Char} {r : List (List Char)} (h : wordsSigns P.initOrder.toList = a :: s :: r) (ha : (a == "harness".toList) = true) (hs : isSumSigns s = true) : P.mainIs = some (true, s) := by
  unfold Program.mainIs
  rw [h]
  show (if (!isSumSigns s) = true then none else if (a == "harness".toList) = true then some (true, s) else _) = _
  rw [if_neg (by rw [hs]; decide), if_pos ha]
def mainSum : String :=
  "fd4a418d8ae577c067248514c3b3bc57b870d42d3fd035bffbd9c81c690d663d"
def headWord : List Char := (wordsSigns firstWords).headD []
def behindSum : List (List Char) := (wordsSigns firstWords).tail.tail
set_option maxRecDepth 100000 in
theorem main_form : wordsSigns firstWords = headWord :: (wordsSigns firstWords).tail.headD [] :: behindSum := by kernel_rfl
set_option maxRecDepth 100000 in
theorem main_head : (headWord == "harness".toList) = true := by kernel_rfl
set_option maxRecDepth 100000 in
theorem main_sum : (wordsSigns firstWords).tail.headD [] = mainSum.toList := by kernel_rfl
set_option maxRecDepth 100000 in
theorem main_hex : isSumSigns mainSum.toList = true := by kernel_rfl
theorem main_is : Tryz.prog.mainIs = some (true, mainSum.toList) :=
  main_of ((congrArg wordsSigns first_list).trans (main_form.trans (congrArg (fun x => headWord :: x :: behindSum) main_sum))) main_head main_hex
theorem and8 {a b c d e f g h : Bool} (ha : a = true) (hb : b = true) (hc : c = true) (hd : d = true) (he : e = true) (hf : f = true) (hg : g = true) (hh : h = true) : (((((((a && b) && c) && d) && e) && f) && g) && h) = true := by
  subst ha hb hc hd he hf hg hh
  rfl
theorem and2 {a b : Bool} (ha : a = true) (hb : b = true) : (a && b) = true := by
  subst ha hb
  rfl
end Go.Proofs.YtamlepacljjpiaaGreatDoor
