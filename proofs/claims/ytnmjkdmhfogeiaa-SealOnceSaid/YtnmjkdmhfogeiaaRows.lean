/-
  No cell of these rows narrows 'for every input' (looked for: loops, veiled, ifaces, maps, wideKeys, modest, calm, conditions, laid).
  DERIVED. THE GIVEN ROWS OF THIS SEAT. 20 by the template 'for every input the law returns true; each argument reads behind the call as it read before'; 0 by the template 'total and deterministic' (their statements: YtnmjkdmhfogeiaaTotals.lean).
  GIVEN WITH THE SEED: the statements are not yours to turn. If you find one false, say at which input.
  Laid BY PROGRAM, IN A SANDBOX (cutbox-rows.mjs): the forced cells as the released guide's own fill.sh prints them over the translation 560feaf10c19055f… (all of the seat's roots in one cut). By AI agents, Wed Nov 11 2026. No macro, syntax, notation, axiom, sorry.
-/
import Derived.Test.YtnmjkdmhfogeiaaChecked
import GoSem.Claim
import GoSem.ClaimJoined
import GoSem.ClaimMapViews
import Derived.JoinedTies
import Derived.KernelRfl
namespace Go.Proofs.Ytnmjkdmhfogeiaa
/- THE CELL 'sum', in the pinned program and in every row, IS THE sha256 OF THE DUMP (.gsa) THAT YtnmjkdmhfogeiaaProg.lean LOADS. Nothing in Lean hashes anything: it is a label: what it is worth is what the hold of that sum in a sandbox is worth. -/
noncomputable def Try.pinned : Pinned := { name := "ytnmjkdmhfogeiaa", sum := "560feaf10c19055f8f04beddbcc47be7444e06988d493ae3ebabcefdea788adf", checked := Try.checked }
namespace Rows
def none {H : Type} : Left H := { results := [], args := [] }

/-- 'garderobelaw26.GaugeMost': WHATEVER THE INPUT: true; the input reads as it did. -/
def gaugeMostSpec : ChangeSpec := { name := "gaugeMost", fn := fun _ => fun
  | [d1, d2, d3, d4, d5] => { results := [.lit (.bool true)], args := [d1, d2, d3, d4, d5] }
  | _ => none }
def gaugeMostRow : OpenClaim := { program := "ytnmjkdmhfogeiaa", sum := "560feaf10c19055f8f04beddbcc47be7444e06988d493ae3ebabcefdea788adf", func := "garderobe/garderobelaw26.GaugeMost", spec := "gaugeMost", plainKeys := false, apart := false }
def GaugeMostSaid : Prop := gaugeMostRow.holds Try.pinned (OpenSpec.ofChange gaugeMostSpec)

/-- ITS FALSE NEIGHBOUR: 'it returns false'. Refute it at one input. -/
def gaugeMostWrong : ChangeSpec := { name := "gaugeMost", fn := fun _ => fun
  | [d1, d2, d3, d4, d5] => { results := [.lit (.bool false)], args := [d1, d2, d3, d4, d5] }
  | _ => none }
def GaugeMostWrongFalsely : Prop := gaugeMostRow.holds Try.pinned (OpenSpec.ofChange gaugeMostWrong)

/-- 'garderobelaw02.GfMul': WHATEVER THE INPUT: true; the input reads as it did. -/
def gfMulSpec : ChangeSpec := { name := "gfMul", fn := fun _ => fun
  | [d1, d2] => { results := [.lit (.bool true)], args := [d1, d2] }
  | _ => none }
def gfMulRow : OpenClaim := { program := "ytnmjkdmhfogeiaa", sum := "560feaf10c19055f8f04beddbcc47be7444e06988d493ae3ebabcefdea788adf", func := "garderobe/garderobelaw02.GfMul", spec := "gfMul", unfollowed := true, recurses := true, plainKeys := false, apart := false }
def GfMulSaid : Prop := gfMulRow.holds Try.pinned (OpenSpec.ofChange gfMulSpec)

/-- ITS FALSE NEIGHBOUR: 'it returns false'. Refute it at one input. -/
def gfMulWrong : ChangeSpec := { name := "gfMul", fn := fun _ => fun
  | [d1, d2] => { results := [.lit (.bool false)], args := [d1, d2] }
  | _ => none }
def GfMulWrongFalsely : Prop := gfMulRow.holds Try.pinned (OpenSpec.ofChange gfMulWrong)

/-- 'garderobelaw02.GfField': WHATEVER THE INPUT: true; the input reads as it did. -/
def gfFieldSpec : ChangeSpec := { name := "gfField", fn := fun _ => fun
  | [d1, d2, d3] => { results := [.lit (.bool true)], args := [d1, d2, d3] }
  | _ => none }
def gfFieldRow : OpenClaim := { program := "ytnmjkdmhfogeiaa", sum := "560feaf10c19055f8f04beddbcc47be7444e06988d493ae3ebabcefdea788adf", func := "garderobe/garderobelaw02.GfField", spec := "gfField", unfollowed := true, recurses := true, plainKeys := false, apart := false }
def GfFieldSaid : Prop := gfFieldRow.holds Try.pinned (OpenSpec.ofChange gfFieldSpec)

/-- ITS FALSE NEIGHBOUR: 'it returns false'. Refute it at one input. -/
def gfFieldWrong : ChangeSpec := { name := "gfField", fn := fun _ => fun
  | [d1, d2, d3] => { results := [.lit (.bool false)], args := [d1, d2, d3] }
  | _ => none }
def GfFieldWrongFalsely : Prop := gfFieldRow.holds Try.pinned (OpenSpec.ofChange gfFieldWrong)

/-- 'garderobelaw02.GfInv': WHATEVER THE INPUT: true; the input reads as it did. -/
def gfInvSpec : ChangeSpec := { name := "gfInv", fn := fun _ => fun
  | [d] => { results := [.lit (.bool true)], args := [d] }
  | _ => none }
def gfInvRow : OpenClaim := { program := "ytnmjkdmhfogeiaa", sum := "560feaf10c19055f8f04beddbcc47be7444e06988d493ae3ebabcefdea788adf", func := "garderobe/garderobelaw02.GfInv", spec := "gfInv", unfollowed := true, recurses := true, plainKeys := false, apart := false }
def GfInvSaid : Prop := gfInvRow.holds Try.pinned (OpenSpec.ofChange gfInvSpec)

/-- ITS FALSE NEIGHBOUR: 'it returns false'. Refute it at one input. -/
def gfInvWrong : ChangeSpec := { name := "gfInv", fn := fun _ => fun
  | [d] => { results := [.lit (.bool false)], args := [d] }
  | _ => none }
def GfInvWrongFalsely : Prop := gfInvRow.holds Try.pinned (OpenSpec.ofChange gfInvWrong)

/-- 'garderobelaw02.GfPower': WHATEVER THE INPUT: true; the input reads as it did. -/
def gfPowerSpec : ChangeSpec := { name := "gfPower", fn := fun _ => fun
  | [d1, d2] => { results := [.lit (.bool true)], args := [d1, d2] }
  | _ => none }
def gfPowerRow : OpenClaim := { program := "ytnmjkdmhfogeiaa", sum := "560feaf10c19055f8f04beddbcc47be7444e06988d493ae3ebabcefdea788adf", func := "garderobe/garderobelaw02.GfPower", spec := "gfPower", unfollowed := true, recurses := true, plainKeys := false, apart := false }
def GfPowerSaid : Prop := gfPowerRow.holds Try.pinned (OpenSpec.ofChange gfPowerSpec)

/-- ITS FALSE NEIGHBOUR: 'it returns false'. Refute it at one input. -/
def gfPowerWrong : ChangeSpec := { name := "gfPower", fn := fun _ => fun
  | [d1, d2] => { results := [.lit (.bool false)], args := [d1, d2] }
  | _ => none }
def GfPowerWrongFalsely : Prop := gfPowerRow.holds Try.pinned (OpenSpec.ofChange gfPowerWrong)

/-- 'garderobelaw02.GfBox': WHATEVER THE INPUT: true; the input reads as it did. -/
def gfBoxSpec : ChangeSpec := { name := "gfBox", fn := fun _ => fun
  | [d] => { results := [.lit (.bool true)], args := [d] }
  | _ => none }
def gfBoxRow : OpenClaim := { program := "ytnmjkdmhfogeiaa", sum := "560feaf10c19055f8f04beddbcc47be7444e06988d493ae3ebabcefdea788adf", func := "garderobe/garderobelaw02.GfBox", spec := "gfBox", unfollowed := true, recurses := true, plainKeys := false, apart := false }
def GfBoxSaid : Prop := gfBoxRow.holds Try.pinned (OpenSpec.ofChange gfBoxSpec)

/-- ITS FALSE NEIGHBOUR: 'it returns false'. Refute it at one input. -/
def gfBoxWrong : ChangeSpec := { name := "gfBox", fn := fun _ => fun
  | [d] => { results := [.lit (.bool false)], args := [d] }
  | _ => none }
def GfBoxWrongFalsely : Prop := gfBoxRow.holds Try.pinned (OpenSpec.ofChange gfBoxWrong)

/-- 'garderobelaw06.CtrCounter': WHATEVER THE INPUT: true; the input reads as it did. -/
def ctrCounterSpec : ChangeSpec := { name := "ctrCounter", fn := fun _ => fun
  | [d1, d2, d3] => { results := [.lit (.bool true)], args := [d1, d2, d3] }
  | _ => none }
def ctrCounterRow : OpenClaim := { program := "ytnmjkdmhfogeiaa", sum := "560feaf10c19055f8f04beddbcc47be7444e06988d493ae3ebabcefdea788adf", func := "garderobe/garderobelaw06.CtrCounter", spec := "ctrCounter", unfollowed := true, recurses := true, plainKeys := false, apart := false }
def CtrCounterSaid : Prop := ctrCounterRow.holds Try.pinned (OpenSpec.ofChange ctrCounterSpec)

/-- ITS FALSE NEIGHBOUR: 'it returns false'. Refute it at one input. -/
def ctrCounterWrong : ChangeSpec := { name := "ctrCounter", fn := fun _ => fun
  | [d1, d2, d3] => { results := [.lit (.bool false)], args := [d1, d2, d3] }
  | _ => none }
def CtrCounterWrongFalsely : Prop := ctrCounterRow.holds Try.pinned (OpenSpec.ofChange ctrCounterWrong)

/-- 'garderobelaw06.CtrOnce': WHATEVER THE INPUT: true; the input reads as it did. -/
def ctrOnceSpec : ChangeSpec := { name := "ctrOnce", fn := fun _ => fun
  | [d1, d2, d3, d4, d5, d6] => { results := [.lit (.bool true)], args := [d1, d2, d3, d4, d5, d6] }
  | _ => none }
def ctrOnceRow : OpenClaim := { program := "ytnmjkdmhfogeiaa", sum := "560feaf10c19055f8f04beddbcc47be7444e06988d493ae3ebabcefdea788adf", func := "garderobe/garderobelaw06.CtrOnce", spec := "ctrOnce", unfollowed := true, recurses := true, plainKeys := false, apart := false }
def CtrOnceSaid : Prop := ctrOnceRow.holds Try.pinned (OpenSpec.ofChange ctrOnceSpec)

/-- ITS FALSE NEIGHBOUR: 'it returns false'. Refute it at one input. -/
def ctrOnceWrong : ChangeSpec := { name := "ctrOnce", fn := fun _ => fun
  | [d1, d2, d3, d4, d5, d6] => { results := [.lit (.bool false)], args := [d1, d2, d3, d4, d5, d6] }
  | _ => none }
def CtrOnceWrongFalsely : Prop := ctrOnceRow.holds Try.pinned (OpenSpec.ofChange ctrOnceWrong)

/-- 'garderobelaw02.GfMix': WHATEVER THE INPUT: true; the input reads as it did. -/
def gfMixSpec : ChangeSpec := { name := "gfMix", fn := fun _ => fun
  | [d1, d2, d3, d4] => { results := [.lit (.bool true)], args := [d1, d2, d3, d4] }
  | _ => none }
def gfMixRow : OpenClaim := { program := "ytnmjkdmhfogeiaa", sum := "560feaf10c19055f8f04beddbcc47be7444e06988d493ae3ebabcefdea788adf", func := "garderobe/garderobelaw02.GfMix", spec := "gfMix", unfollowed := true, recurses := true, plainKeys := false, apart := false }
def GfMixSaid : Prop := gfMixRow.holds Try.pinned (OpenSpec.ofChange gfMixSpec)

/-- ITS FALSE NEIGHBOUR: 'it returns false'. Refute it at one input. -/
def gfMixWrong : ChangeSpec := { name := "gfMix", fn := fun _ => fun
  | [d1, d2, d3, d4] => { results := [.lit (.bool false)], args := [d1, d2, d3, d4] }
  | _ => none }
def GfMixWrongFalsely : Prop := gfMixRow.holds Try.pinned (OpenSpec.ofChange gfMixWrong)

/-- 'garderobelaw05.AesEncrypts': WHATEVER THE INPUT: true; the input reads as it did. -/
def aesEncryptsSpec : ChangeSpec := { name := "aesEncrypts", fn := fun _ => fun
  | [d1, d2, d3, d4] => { results := [.lit (.bool true)], args := [d1, d2, d3, d4] }
  | _ => none }
def aesEncryptsRow : OpenClaim := { program := "ytnmjkdmhfogeiaa", sum := "560feaf10c19055f8f04beddbcc47be7444e06988d493ae3ebabcefdea788adf", func := "garderobe/garderobelaw05.AesEncrypts", spec := "aesEncrypts", unfollowed := true, recurses := true, plainKeys := false, apart := false }
def AesEncryptsSaid : Prop := aesEncryptsRow.holds Try.pinned (OpenSpec.ofChange aesEncryptsSpec)

/-- ITS FALSE NEIGHBOUR: 'it returns false'. Refute it at one input. -/
def aesEncryptsWrong : ChangeSpec := { name := "aesEncrypts", fn := fun _ => fun
  | [d1, d2, d3, d4] => { results := [.lit (.bool false)], args := [d1, d2, d3, d4] }
  | _ => none }
def AesEncryptsWrongFalsely : Prop := aesEncryptsRow.holds Try.pinned (OpenSpec.ofChange aesEncryptsWrong)

/-- 'garderobelaw05.AesApart': WHATEVER THE INPUT: true; the input reads as it did. -/
def aesApartSpec : ChangeSpec := { name := "aesApart", fn := fun _ => fun
  | [d1, d2, d3, d4, d5] => { results := [.lit (.bool true)], args := [d1, d2, d3, d4, d5] }
  | _ => none }
def aesApartRow : OpenClaim := { program := "ytnmjkdmhfogeiaa", sum := "560feaf10c19055f8f04beddbcc47be7444e06988d493ae3ebabcefdea788adf", func := "garderobe/garderobelaw05.AesApart", spec := "aesApart", unfollowed := true, recurses := true, plainKeys := false, apart := false }
def AesApartSaid : Prop := aesApartRow.holds Try.pinned (OpenSpec.ofChange aesApartSpec)

/-- ITS FALSE NEIGHBOUR: 'it returns false'. Refute it at one input. -/
def aesApartWrong : ChangeSpec := { name := "aesApart", fn := fun _ => fun
  | [d1, d2, d3, d4, d5] => { results := [.lit (.bool false)], args := [d1, d2, d3, d4, d5] }
  | _ => none }
def AesApartWrongFalsely : Prop := aesApartRow.holds Try.pinned (OpenSpec.ofChange aesApartWrong)

/-- 'garderobelaw05.AesWords': WHATEVER THE INPUT: true; the input reads as it did. -/
def aesWordsSpec : ChangeSpec := { name := "aesWords", fn := fun _ => fun
  | [d1, d2, d3, d4] => { results := [.lit (.bool true)], args := [d1, d2, d3, d4] }
  | _ => none }
def aesWordsRow : OpenClaim := { program := "ytnmjkdmhfogeiaa", sum := "560feaf10c19055f8f04beddbcc47be7444e06988d493ae3ebabcefdea788adf", func := "garderobe/garderobelaw05.AesWords", spec := "aesWords", unfollowed := true, recurses := true, plainKeys := false, apart := false }
def AesWordsSaid : Prop := aesWordsRow.holds Try.pinned (OpenSpec.ofChange aesWordsSpec)

/-- ITS FALSE NEIGHBOUR: 'it returns false'. Refute it at one input. -/
def aesWordsWrong : ChangeSpec := { name := "aesWords", fn := fun _ => fun
  | [d1, d2, d3, d4] => { results := [.lit (.bool false)], args := [d1, d2, d3, d4] }
  | _ => none }
def AesWordsWrongFalsely : Prop := aesWordsRow.holds Try.pinned (OpenSpec.ofChange aesWordsWrong)

/-- 'garderobelaw05.AesBack': WHATEVER THE INPUT: true; the input reads as it did. -/
def aesBackSpec : ChangeSpec := { name := "aesBack", fn := fun _ => fun
  | [d1, d2, d3, d4] => { results := [.lit (.bool true)], args := [d1, d2, d3, d4] }
  | _ => none }
def aesBackRow : OpenClaim := { program := "ytnmjkdmhfogeiaa", sum := "560feaf10c19055f8f04beddbcc47be7444e06988d493ae3ebabcefdea788adf", func := "garderobe/garderobelaw05.AesBack", spec := "aesBack", unfollowed := true, recurses := true, plainKeys := false, apart := false }
def AesBackSaid : Prop := aesBackRow.holds Try.pinned (OpenSpec.ofChange aesBackSpec)

/-- ITS FALSE NEIGHBOUR: 'it returns false'. Refute it at one input. -/
def aesBackWrong : ChangeSpec := { name := "aesBack", fn := fun _ => fun
  | [d1, d2, d3, d4] => { results := [.lit (.bool false)], args := [d1, d2, d3, d4] }
  | _ => none }
def AesBackWrongFalsely : Prop := aesBackRow.holds Try.pinned (OpenSpec.ofChange aesBackWrong)

/-- 'garderobelaw05.AesNew': WHATEVER THE INPUT: true; the input reads as it did. -/
def aesNewSpec : ChangeSpec := { name := "aesNew", fn := fun _ => fun
  | [d1, d2] => { results := [.lit (.bool true)], args := [d1, d2] }
  | _ => none }
def aesNewRow : OpenClaim := { program := "ytnmjkdmhfogeiaa", sum := "560feaf10c19055f8f04beddbcc47be7444e06988d493ae3ebabcefdea788adf", func := "garderobe/garderobelaw05.AesNew", spec := "aesNew", unfollowed := true, recurses := true, plainKeys := false, apart := false }
def AesNewSaid : Prop := aesNewRow.holds Try.pinned (OpenSpec.ofChange aesNewSpec)

/-- ITS FALSE NEIGHBOUR: 'it returns false'. Refute it at one input. -/
def aesNewWrong : ChangeSpec := { name := "aesNew", fn := fun _ => fun
  | [d1, d2] => { results := [.lit (.bool false)], args := [d1, d2] }
  | _ => none }
def AesNewWrongFalsely : Prop := aesNewRow.holds Try.pinned (OpenSpec.ofChange aesNewWrong)

/-- 'garderobelaw06.CtrMost': WHATEVER THE INPUT: true; the input reads as it did. -/
def ctrMostSpec : ChangeSpec := { name := "ctrMost", fn := fun _ => fun
  | [d] => { results := [.lit (.bool true)], args := [d] }
  | _ => none }
def ctrMostRow : OpenClaim := { program := "ytnmjkdmhfogeiaa", sum := "560feaf10c19055f8f04beddbcc47be7444e06988d493ae3ebabcefdea788adf", func := "garderobe/garderobelaw06.CtrMost", spec := "ctrMost", unfollowed := true, recurses := true, plainKeys := false, apart := false }
def CtrMostSaid : Prop := ctrMostRow.holds Try.pinned (OpenSpec.ofChange ctrMostSpec)

/-- ITS FALSE NEIGHBOUR: 'it returns false'. Refute it at one input. -/
def ctrMostWrong : ChangeSpec := { name := "ctrMost", fn := fun _ => fun
  | [d] => { results := [.lit (.bool false)], args := [d] }
  | _ => none }
def CtrMostWrongFalsely : Prop := ctrMostRow.holds Try.pinned (OpenSpec.ofChange ctrMostWrong)

/-- 'garderobelaw06.CtrApplies': WHATEVER THE INPUT: true; the input reads as it did. -/
def ctrAppliesSpec : ChangeSpec := { name := "ctrApplies", fn := fun _ => fun
  | [d1, d2, d3, d4] => { results := [.lit (.bool true)], args := [d1, d2, d3, d4] }
  | _ => none }
def ctrAppliesRow : OpenClaim := { program := "ytnmjkdmhfogeiaa", sum := "560feaf10c19055f8f04beddbcc47be7444e06988d493ae3ebabcefdea788adf", func := "garderobe/garderobelaw06.CtrApplies", spec := "ctrApplies", unfollowed := true, recurses := true, plainKeys := false, apart := false }
def CtrAppliesSaid : Prop := ctrAppliesRow.holds Try.pinned (OpenSpec.ofChange ctrAppliesSpec)

/-- ITS FALSE NEIGHBOUR: 'it returns false'. Refute it at one input. -/
def ctrAppliesWrong : ChangeSpec := { name := "ctrApplies", fn := fun _ => fun
  | [d1, d2, d3, d4] => { results := [.lit (.bool false)], args := [d1, d2, d3, d4] }
  | _ => none }
def CtrAppliesWrongFalsely : Prop := ctrAppliesRow.holds Try.pinned (OpenSpec.ofChange ctrAppliesWrong)

/-- 'garderobelaw06.CtrBack': WHATEVER THE INPUT: true; the input reads as it did. -/
def ctrBackSpec : ChangeSpec := { name := "ctrBack", fn := fun _ => fun
  | [d1, d2, d3, d4] => { results := [.lit (.bool true)], args := [d1, d2, d3, d4] }
  | _ => none }
def ctrBackRow : OpenClaim := { program := "ytnmjkdmhfogeiaa", sum := "560feaf10c19055f8f04beddbcc47be7444e06988d493ae3ebabcefdea788adf", func := "garderobe/garderobelaw06.CtrBack", spec := "ctrBack", unfollowed := true, recurses := true, plainKeys := false, apart := false }
def CtrBackSaid : Prop := ctrBackRow.holds Try.pinned (OpenSpec.ofChange ctrBackSpec)

/-- ITS FALSE NEIGHBOUR: 'it returns false'. Refute it at one input. -/
def ctrBackWrong : ChangeSpec := { name := "ctrBack", fn := fun _ => fun
  | [d1, d2, d3, d4] => { results := [.lit (.bool false)], args := [d1, d2, d3, d4] }
  | _ => none }
def CtrBackWrongFalsely : Prop := ctrBackRow.holds Try.pinned (OpenSpec.ofChange ctrBackWrong)

/-- 'garderobelaw10.SealOnce': WHATEVER THE INPUT: true; the input reads as it did. -/
def sealOnceSpec : ChangeSpec := { name := "sealOnce", fn := fun _ => fun
  | [d1, d2] => { results := [.lit (.bool true)], args := [d1, d2] }
  | _ => none }
def sealOnceRow : OpenClaim := { program := "ytnmjkdmhfogeiaa", sum := "560feaf10c19055f8f04beddbcc47be7444e06988d493ae3ebabcefdea788adf", func := "garderobe/garderobelaw10.SealOnce", spec := "sealOnce", unfollowed := true, recurses := true, plainKeys := false, apart := false }
def SealOnceSaid : Prop := sealOnceRow.holds Try.pinned (OpenSpec.ofChange sealOnceSpec)

/-- ITS FALSE NEIGHBOUR: 'it returns false'. Refute it at one input. -/
def sealOnceWrong : ChangeSpec := { name := "sealOnce", fn := fun _ => fun
  | [d1, d2] => { results := [.lit (.bool false)], args := [d1, d2] }
  | _ => none }
def SealOnceWrongFalsely : Prop := sealOnceRow.holds Try.pinned (OpenSpec.ofChange sealOnceWrong)

/-- 'garderobelaw10.SealApart': WHATEVER THE INPUT: true; the input reads as it did. -/
def sealApartSpec : ChangeSpec := { name := "sealApart", fn := fun _ => fun
  | [d1, d2, d3, d4, d5] => { results := [.lit (.bool true)], args := [d1, d2, d3, d4, d5] }
  | _ => none }
def sealApartRow : OpenClaim := { program := "ytnmjkdmhfogeiaa", sum := "560feaf10c19055f8f04beddbcc47be7444e06988d493ae3ebabcefdea788adf", func := "garderobe/garderobelaw10.SealApart", spec := "sealApart", unfollowed := true, recurses := true, plainKeys := false, apart := false }
def SealApartSaid : Prop := sealApartRow.holds Try.pinned (OpenSpec.ofChange sealApartSpec)

/-- ITS FALSE NEIGHBOUR: 'it returns false'. Refute it at one input. -/
def sealApartWrong : ChangeSpec := { name := "sealApart", fn := fun _ => fun
  | [d1, d2, d3, d4, d5] => { results := [.lit (.bool false)], args := [d1, d2, d3, d4, d5] }
  | _ => none }
def SealApartWrongFalsely : Prop := sealApartRow.holds Try.pinned (OpenSpec.ofChange sealApartWrong)

/-- 'garderobelaw10.SealBack': WHATEVER THE INPUT: true; the input reads as it did. -/
def sealBackSpec : ChangeSpec := { name := "sealBack", fn := fun _ => fun
  | [d1, d2, d3, d4] => { results := [.lit (.bool true)], args := [d1, d2, d3, d4] }
  | _ => none }
def sealBackRow : OpenClaim := { program := "ytnmjkdmhfogeiaa", sum := "560feaf10c19055f8f04beddbcc47be7444e06988d493ae3ebabcefdea788adf", func := "garderobe/garderobelaw10.SealBack", spec := "sealBack", unfollowed := true, recurses := true, plainKeys := false, apart := false }
def SealBackSaid : Prop := sealBackRow.holds Try.pinned (OpenSpec.ofChange sealBackSpec)

/-- ITS FALSE NEIGHBOUR: 'it returns false'. Refute it at one input. -/
def sealBackWrong : ChangeSpec := { name := "sealBack", fn := fun _ => fun
  | [d1, d2, d3, d4] => { results := [.lit (.bool false)], args := [d1, d2, d3, d4] }
  | _ => none }
def SealBackWrongFalsely : Prop := sealBackRow.holds Try.pinned (OpenSpec.ofChange sealBackWrong)

/- THE SECOND FORM. 'bulk': how many values and letters a reading holds, each counted each time it is reached (what is shared counts as often as it is met; a slice's spare places count too). A statement '..UptoSaid' is the law's where the arguments, and the package variables that the reading takes, are together of bulk at most 1048576: NARROWER than '..Said'. Prove '..Said' where nothing that the law and all that it calls make is longer than what came in: it says more and counts as full. Else prove '..UptoSaid'. A law counts once. -/
mutual
def uptoBulk {H : Type} : DataW H → Nat
  | .lit (.string bytes) => bytes.length + 1
  | .lit _ => 1
  | .nil => 1
  | .ptr d => uptoBulk d + 1
  | .slice elems spare => uptoBulkAll elems + uptoBulkAll spare + 1
  | .agg parts => uptoBulkAll parts + 1
  | .iface _ d => uptoBulk d + 1
  | .map entries => uptoBulkEntries entries + 1
  | .held _ => 1
def uptoBulkAll {H : Type} : List (DataW H) → Nat
  | [] => 0
  | d :: r => uptoBulk d + uptoBulkAll r
def uptoBulkEntries {H : Type} : List (Lit × DataW H) → Nat
  | [] => 0
  | x :: r => uptoBulkEntry x + uptoBulkEntries r
def uptoBulkEntry {H : Type} : Lit × DataW H → Nat
  | (.string bytes, d) => bytes.length + uptoBulk d + 1
  | (_, d) => uptoBulk d + 1
 end
def uptoSmall : (H : Type) → List (DataW H) → Bool := fun _ ds => decide (uptoBulkAll ds ≤ 1048576)
def OpenSpec.upto (s : _root_.Go.ChangeSpec) : _root_.Go.OpenSpec := { _root_.Go.OpenSpec.ofChange s with cond := some uptoSmall }

/-- 'garderobelaw26.GaugeMost', WHERE WHAT IT READS IS OF BULK AT MOST 1048576: true; the input reads as it did. -/
def gaugeMostUptoRow : OpenClaim := { program := "ytnmjkdmhfogeiaa", sum := "560feaf10c19055f8f04beddbcc47be7444e06988d493ae3ebabcefdea788adf", func := "garderobe/garderobelaw26.GaugeMost", spec := "gaugeMost", plainKeys := false, apart := false, narrowed := true }
def GaugeMostUptoSaid : Prop := gaugeMostUptoRow.holds Try.pinned (OpenSpec.upto gaugeMostSpec)

/-- 'garderobelaw02.GfMul', WHERE WHAT IT READS IS OF BULK AT MOST 1048576: true; the input reads as it did. -/
def gfMulUptoRow : OpenClaim := { program := "ytnmjkdmhfogeiaa", sum := "560feaf10c19055f8f04beddbcc47be7444e06988d493ae3ebabcefdea788adf", func := "garderobe/garderobelaw02.GfMul", spec := "gfMul", unfollowed := true, recurses := true, plainKeys := false, apart := false, narrowed := true }
def GfMulUptoSaid : Prop := gfMulUptoRow.holds Try.pinned (OpenSpec.upto gfMulSpec)

/-- 'garderobelaw02.GfField', WHERE WHAT IT READS IS OF BULK AT MOST 1048576: true; the input reads as it did. -/
def gfFieldUptoRow : OpenClaim := { program := "ytnmjkdmhfogeiaa", sum := "560feaf10c19055f8f04beddbcc47be7444e06988d493ae3ebabcefdea788adf", func := "garderobe/garderobelaw02.GfField", spec := "gfField", unfollowed := true, recurses := true, plainKeys := false, apart := false, narrowed := true }
def GfFieldUptoSaid : Prop := gfFieldUptoRow.holds Try.pinned (OpenSpec.upto gfFieldSpec)

/-- 'garderobelaw02.GfInv', WHERE WHAT IT READS IS OF BULK AT MOST 1048576: true; the input reads as it did. -/
def gfInvUptoRow : OpenClaim := { program := "ytnmjkdmhfogeiaa", sum := "560feaf10c19055f8f04beddbcc47be7444e06988d493ae3ebabcefdea788adf", func := "garderobe/garderobelaw02.GfInv", spec := "gfInv", unfollowed := true, recurses := true, plainKeys := false, apart := false, narrowed := true }
def GfInvUptoSaid : Prop := gfInvUptoRow.holds Try.pinned (OpenSpec.upto gfInvSpec)

/-- 'garderobelaw02.GfPower', WHERE WHAT IT READS IS OF BULK AT MOST 1048576: true; the input reads as it did. -/
def gfPowerUptoRow : OpenClaim := { program := "ytnmjkdmhfogeiaa", sum := "560feaf10c19055f8f04beddbcc47be7444e06988d493ae3ebabcefdea788adf", func := "garderobe/garderobelaw02.GfPower", spec := "gfPower", unfollowed := true, recurses := true, plainKeys := false, apart := false, narrowed := true }
def GfPowerUptoSaid : Prop := gfPowerUptoRow.holds Try.pinned (OpenSpec.upto gfPowerSpec)

/-- 'garderobelaw02.GfBox', WHERE WHAT IT READS IS OF BULK AT MOST 1048576: true; the input reads as it did. -/
def gfBoxUptoRow : OpenClaim := { program := "ytnmjkdmhfogeiaa", sum := "560feaf10c19055f8f04beddbcc47be7444e06988d493ae3ebabcefdea788adf", func := "garderobe/garderobelaw02.GfBox", spec := "gfBox", unfollowed := true, recurses := true, plainKeys := false, apart := false, narrowed := true }
def GfBoxUptoSaid : Prop := gfBoxUptoRow.holds Try.pinned (OpenSpec.upto gfBoxSpec)

/-- 'garderobelaw06.CtrCounter', WHERE WHAT IT READS IS OF BULK AT MOST 1048576: true; the input reads as it did. -/
def ctrCounterUptoRow : OpenClaim := { program := "ytnmjkdmhfogeiaa", sum := "560feaf10c19055f8f04beddbcc47be7444e06988d493ae3ebabcefdea788adf", func := "garderobe/garderobelaw06.CtrCounter", spec := "ctrCounter", unfollowed := true, recurses := true, plainKeys := false, apart := false, narrowed := true }
def CtrCounterUptoSaid : Prop := ctrCounterUptoRow.holds Try.pinned (OpenSpec.upto ctrCounterSpec)

/-- 'garderobelaw06.CtrOnce', WHERE WHAT IT READS IS OF BULK AT MOST 1048576: true; the input reads as it did. -/
def ctrOnceUptoRow : OpenClaim := { program := "ytnmjkdmhfogeiaa", sum := "560feaf10c19055f8f04beddbcc47be7444e06988d493ae3ebabcefdea788adf", func := "garderobe/garderobelaw06.CtrOnce", spec := "ctrOnce", unfollowed := true, recurses := true, plainKeys := false, apart := false, narrowed := true }
def CtrOnceUptoSaid : Prop := ctrOnceUptoRow.holds Try.pinned (OpenSpec.upto ctrOnceSpec)

/-- 'garderobelaw02.GfMix', WHERE WHAT IT READS IS OF BULK AT MOST 1048576: true; the input reads as it did. -/
def gfMixUptoRow : OpenClaim := { program := "ytnmjkdmhfogeiaa", sum := "560feaf10c19055f8f04beddbcc47be7444e06988d493ae3ebabcefdea788adf", func := "garderobe/garderobelaw02.GfMix", spec := "gfMix", unfollowed := true, recurses := true, plainKeys := false, apart := false, narrowed := true }
def GfMixUptoSaid : Prop := gfMixUptoRow.holds Try.pinned (OpenSpec.upto gfMixSpec)

/-- 'garderobelaw05.AesEncrypts', WHERE WHAT IT READS IS OF BULK AT MOST 1048576: true; the input reads as it did. -/
def aesEncryptsUptoRow : OpenClaim := { program := "ytnmjkdmhfogeiaa", sum := "560feaf10c19055f8f04beddbcc47be7444e06988d493ae3ebabcefdea788adf", func := "garderobe/garderobelaw05.AesEncrypts", spec := "aesEncrypts", unfollowed := true, recurses := true, plainKeys := false, apart := false, narrowed := true }
def AesEncryptsUptoSaid : Prop := aesEncryptsUptoRow.holds Try.pinned (OpenSpec.upto aesEncryptsSpec)

/-- 'garderobelaw05.AesApart', WHERE WHAT IT READS IS OF BULK AT MOST 1048576: true; the input reads as it did. -/
def aesApartUptoRow : OpenClaim := { program := "ytnmjkdmhfogeiaa", sum := "560feaf10c19055f8f04beddbcc47be7444e06988d493ae3ebabcefdea788adf", func := "garderobe/garderobelaw05.AesApart", spec := "aesApart", unfollowed := true, recurses := true, plainKeys := false, apart := false, narrowed := true }
def AesApartUptoSaid : Prop := aesApartUptoRow.holds Try.pinned (OpenSpec.upto aesApartSpec)

/-- 'garderobelaw05.AesWords', WHERE WHAT IT READS IS OF BULK AT MOST 1048576: true; the input reads as it did. -/
def aesWordsUptoRow : OpenClaim := { program := "ytnmjkdmhfogeiaa", sum := "560feaf10c19055f8f04beddbcc47be7444e06988d493ae3ebabcefdea788adf", func := "garderobe/garderobelaw05.AesWords", spec := "aesWords", unfollowed := true, recurses := true, plainKeys := false, apart := false, narrowed := true }
def AesWordsUptoSaid : Prop := aesWordsUptoRow.holds Try.pinned (OpenSpec.upto aesWordsSpec)

/-- 'garderobelaw05.AesBack', WHERE WHAT IT READS IS OF BULK AT MOST 1048576: true; the input reads as it did. -/
def aesBackUptoRow : OpenClaim := { program := "ytnmjkdmhfogeiaa", sum := "560feaf10c19055f8f04beddbcc47be7444e06988d493ae3ebabcefdea788adf", func := "garderobe/garderobelaw05.AesBack", spec := "aesBack", unfollowed := true, recurses := true, plainKeys := false, apart := false, narrowed := true }
def AesBackUptoSaid : Prop := aesBackUptoRow.holds Try.pinned (OpenSpec.upto aesBackSpec)

/-- 'garderobelaw05.AesNew', WHERE WHAT IT READS IS OF BULK AT MOST 1048576: true; the input reads as it did. -/
def aesNewUptoRow : OpenClaim := { program := "ytnmjkdmhfogeiaa", sum := "560feaf10c19055f8f04beddbcc47be7444e06988d493ae3ebabcefdea788adf", func := "garderobe/garderobelaw05.AesNew", spec := "aesNew", unfollowed := true, recurses := true, plainKeys := false, apart := false, narrowed := true }
def AesNewUptoSaid : Prop := aesNewUptoRow.holds Try.pinned (OpenSpec.upto aesNewSpec)

/-- 'garderobelaw06.CtrMost', WHERE WHAT IT READS IS OF BULK AT MOST 1048576: true; the input reads as it did. -/
def ctrMostUptoRow : OpenClaim := { program := "ytnmjkdmhfogeiaa", sum := "560feaf10c19055f8f04beddbcc47be7444e06988d493ae3ebabcefdea788adf", func := "garderobe/garderobelaw06.CtrMost", spec := "ctrMost", unfollowed := true, recurses := true, plainKeys := false, apart := false, narrowed := true }
def CtrMostUptoSaid : Prop := ctrMostUptoRow.holds Try.pinned (OpenSpec.upto ctrMostSpec)

/-- 'garderobelaw06.CtrApplies', WHERE WHAT IT READS IS OF BULK AT MOST 1048576: true; the input reads as it did. -/
def ctrAppliesUptoRow : OpenClaim := { program := "ytnmjkdmhfogeiaa", sum := "560feaf10c19055f8f04beddbcc47be7444e06988d493ae3ebabcefdea788adf", func := "garderobe/garderobelaw06.CtrApplies", spec := "ctrApplies", unfollowed := true, recurses := true, plainKeys := false, apart := false, narrowed := true }
def CtrAppliesUptoSaid : Prop := ctrAppliesUptoRow.holds Try.pinned (OpenSpec.upto ctrAppliesSpec)

/-- 'garderobelaw06.CtrBack', WHERE WHAT IT READS IS OF BULK AT MOST 1048576: true; the input reads as it did. -/
def ctrBackUptoRow : OpenClaim := { program := "ytnmjkdmhfogeiaa", sum := "560feaf10c19055f8f04beddbcc47be7444e06988d493ae3ebabcefdea788adf", func := "garderobe/garderobelaw06.CtrBack", spec := "ctrBack", unfollowed := true, recurses := true, plainKeys := false, apart := false, narrowed := true }
def CtrBackUptoSaid : Prop := ctrBackUptoRow.holds Try.pinned (OpenSpec.upto ctrBackSpec)

/-- 'garderobelaw10.SealOnce', WHERE WHAT IT READS IS OF BULK AT MOST 1048576: true; the input reads as it did. -/
def sealOnceUptoRow : OpenClaim := { program := "ytnmjkdmhfogeiaa", sum := "560feaf10c19055f8f04beddbcc47be7444e06988d493ae3ebabcefdea788adf", func := "garderobe/garderobelaw10.SealOnce", spec := "sealOnce", unfollowed := true, recurses := true, plainKeys := false, apart := false, narrowed := true }
def SealOnceUptoSaid : Prop := sealOnceUptoRow.holds Try.pinned (OpenSpec.upto sealOnceSpec)

/-- 'garderobelaw10.SealApart', WHERE WHAT IT READS IS OF BULK AT MOST 1048576: true; the input reads as it did. -/
def sealApartUptoRow : OpenClaim := { program := "ytnmjkdmhfogeiaa", sum := "560feaf10c19055f8f04beddbcc47be7444e06988d493ae3ebabcefdea788adf", func := "garderobe/garderobelaw10.SealApart", spec := "sealApart", unfollowed := true, recurses := true, plainKeys := false, apart := false, narrowed := true }
def SealApartUptoSaid : Prop := sealApartUptoRow.holds Try.pinned (OpenSpec.upto sealApartSpec)

/-- 'garderobelaw10.SealBack', WHERE WHAT IT READS IS OF BULK AT MOST 1048576: true; the input reads as it did. -/
def sealBackUptoRow : OpenClaim := { program := "ytnmjkdmhfogeiaa", sum := "560feaf10c19055f8f04beddbcc47be7444e06988d493ae3ebabcefdea788adf", func := "garderobe/garderobelaw10.SealBack", spec := "sealBack", unfollowed := true, recurses := true, plainKeys := false, apart := false, narrowed := true }
def SealBackUptoSaid : Prop := sealBackUptoRow.holds Try.pinned (OpenSpec.upto sealBackSpec)

end Rows
end Go.Proofs.Ytnmjkdmhfogeiaa
