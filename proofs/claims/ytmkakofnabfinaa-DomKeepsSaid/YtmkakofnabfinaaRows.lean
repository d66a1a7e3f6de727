/-
  NARROWER THAN 'FOR EVERY INPUT', by the rows' own cells (each row's printed sentence says how): BloomNeeds: loops.
  DERIVED. THE GIVEN ROWS OF THIS SEAT. 10 by the template 'for every input the law returns true; each argument reads behind the call as it read before'; 0 by the template 'total and deterministic' (their statements: YtmkakofnabfinaaTotals.lean).
  GIVEN WITH THE SEED: the statements are not yours to turn. If you find one false, say at which input.
  Laid BY PROGRAM, IN A SANDBOX (cutbox-rows.mjs): the forced cells as the released guide's own fill.sh prints them over the translation b58b22898bbf8593… (all of the seat's roots in one cut). By AI agents, Wed Nov 11 2026. No macro, syntax, notation, axiom, sorry.
-/
import Derived.Test.YtmkakofnabfinaaChecked
import GoSem.Claim
import GoSem.ClaimJoined
import GoSem.ClaimMapViews
import Derived.JoinedTies
import Derived.KernelRfl
namespace Go.Proofs.Ytmkakofnabfinaa
/- THE CELL 'sum', in the pinned program and in every row, IS THE sha256 OF THE DUMP (.gsa) THAT YtmkakofnabfinaaProg.lean LOADS. Nothing in Lean hashes anything: it is a label: what it is worth is what the hold of that sum in a sandbox is worth. -/
noncomputable def Try.pinned : Pinned := { name := "ytmkakofnabfinaa", sum := "b58b22898bbf8593f81afe13f411dc2e6513573c1c22bb00bbc6f871d0b8c724", checked := Try.checked }
namespace Rows
def none {H : Type} : Left H := { results := [], args := [] }

/-- 'gouachelaw07.DomDeep': WHATEVER THE INPUT: true; the input reads as it did. -/
def domDeepSpec : ChangeSpec := { name := "domDeep", fn := fun _ => fun
  | [d] => { results := [.lit (.bool true)], args := [d] }
  | _ => none }
def domDeepRow : OpenClaim := { program := "ytmkakofnabfinaa", sum := "b58b22898bbf8593f81afe13f411dc2e6513573c1c22bb00bbc6f871d0b8c724", func := "gouache/gouachelaw07.DomDeep", spec := "domDeep", inPlace := ["slices.overlaps[int]"], unfollowed := true, recurses := true, apart := false }
def DomDeepSaid : Prop := domDeepRow.holds Try.pinned (OpenSpec.ofChange domDeepSpec)

/-- ITS FALSE NEIGHBOUR: 'it returns false'. Refute it at one input. -/
def domDeepWrong : ChangeSpec := { name := "domDeep", fn := fun _ => fun
  | [d] => { results := [.lit (.bool false)], args := [d] }
  | _ => none }
def DomDeepWrongFalsely : Prop := domDeepRow.holds Try.pinned (OpenSpec.ofChange domDeepWrong)

/-- 'gouachelaw07.DomWords': WHATEVER THE INPUT: true; the input reads as it did. -/
def domWordsSpec : ChangeSpec := { name := "domWords", fn := fun _ => fun
  | [d] => { results := [.lit (.bool true)], args := [d] }
  | _ => none }
def domWordsRow : OpenClaim := { program := "ytmkakofnabfinaa", sum := "b58b22898bbf8593f81afe13f411dc2e6513573c1c22bb00bbc6f871d0b8c724", func := "gouache/gouachelaw07.DomWords", spec := "domWords", inPlace := ["slices.overlaps[int]"], unfollowed := true, recurses := true, apart := false }
def DomWordsSaid : Prop := domWordsRow.holds Try.pinned (OpenSpec.ofChange domWordsSpec)

/-- ITS FALSE NEIGHBOUR: 'it returns false'. Refute it at one input. -/
def domWordsWrong : ChangeSpec := { name := "domWords", fn := fun _ => fun
  | [d] => { results := [.lit (.bool false)], args := [d] }
  | _ => none }
def DomWordsWrongFalsely : Prop := domWordsRow.holds Try.pinned (OpenSpec.ofChange domWordsWrong)

/-- 'gouachelaw07.DomKeeps': WHATEVER THE INPUT: true; the input reads as it did. -/
def domKeepsSpec : ChangeSpec := { name := "domKeeps", fn := fun _ => fun
  | [d] => { results := [.lit (.bool true)], args := [d] }
  | _ => none }
def domKeepsRow : OpenClaim := { program := "ytmkakofnabfinaa", sum := "b58b22898bbf8593f81afe13f411dc2e6513573c1c22bb00bbc6f871d0b8c724", func := "gouache/gouachelaw07.DomKeeps", spec := "domKeeps", inPlace := ["slices.overlaps[int]", "slices.overlaps[gouache/api.Attr]"], unfollowed := true, recurses := true, apart := false }
def DomKeepsSaid : Prop := domKeepsRow.holds Try.pinned (OpenSpec.ofChange domKeepsSpec)

/-- ITS FALSE NEIGHBOUR: 'it returns false'. Refute it at one input. -/
def domKeepsWrong : ChangeSpec := { name := "domKeeps", fn := fun _ => fun
  | [d] => { results := [.lit (.bool false)], args := [d] }
  | _ => none }
def DomKeepsWrongFalsely : Prop := domKeepsRow.holds Try.pinned (OpenSpec.ofChange domKeepsWrong)

/-- 'gouachelaw07.DomBack': WHATEVER THE INPUT: true; the input reads as it did. -/
def domBackSpec : ChangeSpec := { name := "domBack", fn := fun _ => fun
  | [d1, d2, d3] => { results := [.lit (.bool true)], args := [d1, d2, d3] }
  | _ => none }
def domBackRow : OpenClaim := { program := "ytmkakofnabfinaa", sum := "b58b22898bbf8593f81afe13f411dc2e6513573c1c22bb00bbc6f871d0b8c724", func := "gouache/gouachelaw07.DomBack", spec := "domBack", inPlace := ["slices.overlaps[int]", "slices.overlaps[gouache/api.Attr]"], unfollowed := true, recurses := true, apart := false }
def DomBackSaid : Prop := domBackRow.holds Try.pinned (OpenSpec.ofChange domBackSpec)

/-- ITS FALSE NEIGHBOUR: 'it returns false'. Refute it at one input. -/
def domBackWrong : ChangeSpec := { name := "domBack", fn := fun _ => fun
  | [d1, d2, d3] => { results := [.lit (.bool false)], args := [d1, d2, d3] }
  | _ => none }
def DomBackWrongFalsely : Prop := domBackRow.holds Try.pinned (OpenSpec.ofChange domBackWrong)

/-- 'gouachelaw07.DomActs': WHATEVER THE INPUT: true; the input reads as it did. -/
def domActsSpec : ChangeSpec := { name := "domActs", fn := fun _ => fun
  | [d1, d2, d3] => { results := [.lit (.bool true)], args := [d1, d2, d3] }
  | _ => none }
def domActsRow : OpenClaim := { program := "ytmkakofnabfinaa", sum := "b58b22898bbf8593f81afe13f411dc2e6513573c1c22bb00bbc6f871d0b8c724", func := "gouache/gouachelaw07.DomActs", spec := "domActs", inPlace := ["slices.overlaps[int]", "slices.overlaps[gouache/api.Attr]"], unfollowed := true, recurses := true, apart := false }
def DomActsSaid : Prop := domActsRow.holds Try.pinned (OpenSpec.ofChange domActsSpec)

/-- ITS FALSE NEIGHBOUR: 'it returns false'. Refute it at one input. -/
def domActsWrong : ChangeSpec := { name := "domActs", fn := fun _ => fun
  | [d1, d2, d3] => { results := [.lit (.bool false)], args := [d1, d2, d3] }
  | _ => none }
def DomActsWrongFalsely : Prop := domActsRow.holds Try.pinned (OpenSpec.ofChange domActsWrong)

/-- 'gouachelaw07.DomShape': WHATEVER THE INPUT: true; the input reads as it did. -/
def domShapeSpec : ChangeSpec := { name := "domShape", fn := fun _ => fun
  | [d] => { results := [.lit (.bool true)], args := [d] }
  | _ => none }
def domShapeRow : OpenClaim := { program := "ytmkakofnabfinaa", sum := "b58b22898bbf8593f81afe13f411dc2e6513573c1c22bb00bbc6f871d0b8c724", func := "gouache/gouachelaw07.DomShape", spec := "domShape", inPlace := ["slices.overlaps[int]", "slices.overlaps[gouache/api.Attr]"], unfollowed := true, recurses := true, apart := false }
def DomShapeSaid : Prop := domShapeRow.holds Try.pinned (OpenSpec.ofChange domShapeSpec)

/-- ITS FALSE NEIGHBOUR: 'it returns false'. Refute it at one input. -/
def domShapeWrong : ChangeSpec := { name := "domShape", fn := fun _ => fun
  | [d] => { results := [.lit (.bool false)], args := [d] }
  | _ => none }
def DomShapeWrongFalsely : Prop := domShapeRow.holds Try.pinned (OpenSpec.ofChange domShapeWrong)

/-- 'gouachelaw07.DomNone': WHATEVER THE INPUT: true; the input reads as it did. -/
def domNoneSpec : ChangeSpec := { name := "domNone", fn := fun _ => fun
  | [d] => { results := [.lit (.bool true)], args := [d] }
  | _ => none }
def domNoneRow : OpenClaim := { program := "ytmkakofnabfinaa", sum := "b58b22898bbf8593f81afe13f411dc2e6513573c1c22bb00bbc6f871d0b8c724", func := "gouache/gouachelaw07.DomNone", spec := "domNone", inPlace := ["slices.overlaps[int]", "slices.overlaps[gouache/api.Attr]"], unfollowed := true, recurses := true, apart := false }
def DomNoneSaid : Prop := domNoneRow.holds Try.pinned (OpenSpec.ofChange domNoneSpec)

/-- ITS FALSE NEIGHBOUR: 'it returns false'. Refute it at one input. -/
def domNoneWrong : ChangeSpec := { name := "domNone", fn := fun _ => fun
  | [d] => { results := [.lit (.bool false)], args := [d] }
  | _ => none }
def DomNoneWrongFalsely : Prop := domNoneRow.holds Try.pinned (OpenSpec.ofChange domNoneWrong)

/-- 'gouachelaw10.BloomKeys': WHATEVER THE INPUT: true; the input reads as it did. -/
def bloomKeysSpec : ChangeSpec := { name := "bloomKeys", fn := fun _ => fun
  | [d1, d2, d3] => { results := [.lit (.bool true)], args := [d1, d2, d3] }
  | _ => none }
def bloomKeysRow : OpenClaim := { program := "ytmkakofnabfinaa", sum := "b58b22898bbf8593f81afe13f411dc2e6513573c1c22bb00bbc6f871d0b8c724", func := "gouache/gouachelaw10.BloomKeys", spec := "bloomKeys", unfollowed := true, recurses := true, apart := false }
def BloomKeysSaid : Prop := bloomKeysRow.holds Try.pinned (OpenSpec.ofChange bloomKeysSpec)

/-- ITS FALSE NEIGHBOUR: 'it returns false'. Refute it at one input. -/
def bloomKeysWrong : ChangeSpec := { name := "bloomKeys", fn := fun _ => fun
  | [d1, d2, d3] => { results := [.lit (.bool false)], args := [d1, d2, d3] }
  | _ => none }
def BloomKeysWrongFalsely : Prop := bloomKeysRow.holds Try.pinned (OpenSpec.ofChange bloomKeysWrong)

/-- 'gouachelaw10.BloomNeeds': WHATEVER THE INPUT: true; the input reads as it did. -/
def bloomNeedsSpec : ChangeSpec := { name := "bloomNeeds", fn := fun _ => fun
  | [d1, d2] => { results := [.lit (.bool true)], args := [d1, d2] }
  | _ => none }
def bloomNeedsRow : OpenClaim := { program := "ytmkakofnabfinaa", sum := "b58b22898bbf8593f81afe13f411dc2e6513573c1c22bb00bbc6f871d0b8c724", func := "gouache/gouachelaw10.BloomNeeds", spec := "bloomNeeds", unfollowed := true, recurses := true, loops := true, apart := false }
def BloomNeedsSaid : Prop := bloomNeedsRow.holds Try.pinned (OpenSpec.ofChange bloomNeedsSpec)

/-- ITS FALSE NEIGHBOUR: 'it returns false'. Refute it at one input. -/
def bloomNeedsWrong : ChangeSpec := { name := "bloomNeeds", fn := fun _ => fun
  | [d1, d2] => { results := [.lit (.bool false)], args := [d1, d2] }
  | _ => none }
def BloomNeedsWrongFalsely : Prop := bloomNeedsRow.holds Try.pinned (OpenSpec.ofChange bloomNeedsWrong)

/-- 'gouachelaw10.BloomSets': WHATEVER THE INPUT: true; the input reads as it did. -/
def bloomSetsSpec : ChangeSpec := { name := "bloomSets", fn := fun _ => fun
  | [d] => { results := [.lit (.bool true)], args := [d] }
  | _ => none }
def bloomSetsRow : OpenClaim := { program := "ytmkakofnabfinaa", sum := "b58b22898bbf8593f81afe13f411dc2e6513573c1c22bb00bbc6f871d0b8c724", func := "gouache/gouachelaw10.BloomSets", spec := "bloomSets", unfollowed := true, recurses := true, apart := false }
def BloomSetsSaid : Prop := bloomSetsRow.holds Try.pinned (OpenSpec.ofChange bloomSetsSpec)

/-- ITS FALSE NEIGHBOUR: 'it returns false'. Refute it at one input. -/
def bloomSetsWrong : ChangeSpec := { name := "bloomSets", fn := fun _ => fun
  | [d] => { results := [.lit (.bool false)], args := [d] }
  | _ => none }
def BloomSetsWrongFalsely : Prop := bloomSetsRow.holds Try.pinned (OpenSpec.ofChange bloomSetsWrong)

/- THE SECOND FORM. 'bulk': how many values and letters a reading holds, each counted each time it is reached (what is shared counts as often as it is met; a slice's spare places count too). A statement '..UptoSaid' is the law's where the arguments, and the package variables that the reading takes, are together of bulk at most 1048576: NARROWER than '..Said'. Prove '..Said' where nothing that the law and all that it calls make is longer than what came in: it says more and counts as full. Else prove '..UptoSaid'. A law counts once. -/
mutual
def uptoBulk {H : Type} : DataW H → Nat
  | .lit (.string bytes) => bytes.length + 1
  | .lit _ => 1
  | .nil => 1
  | .ptr d => uptoBulk d + 1
  | .slice elems spare => uptoBulkAll elems + uptoBulkAll spare + 1
  | .agg parts => uptoBulkAll parts + 1
  | .iface _ d => uptoBulk d + 1
  | .map entries => uptoBulkEntries entries + 1
  | .held _ => 1
def uptoBulkAll {H : Type} : List (DataW H) → Nat
  | [] => 0
  | d :: r => uptoBulk d + uptoBulkAll r
def uptoBulkEntries {H : Type} : List (Lit × DataW H) → Nat
  | [] => 0
  | x :: r => uptoBulkEntry x + uptoBulkEntries r
def uptoBulkEntry {H : Type} : Lit × DataW H → Nat
  | (.string bytes, d) => bytes.length + uptoBulk d + 1
  | (_, d) => uptoBulk d + 1
 end
def uptoSmall : (H : Type) → List (DataW H) → Bool := fun _ ds => decide (uptoBulkAll ds ≤ 1048576)
def OpenSpec.upto (s : _root_.Go.ChangeSpec) : _root_.Go.OpenSpec := { _root_.Go.OpenSpec.ofChange s with cond := some uptoSmall }

/-- 'gouachelaw07.DomDeep', WHERE WHAT IT READS IS OF BULK AT MOST 1048576: true; the input reads as it did. -/
def domDeepUptoRow : OpenClaim := { program := "ytmkakofnabfinaa", sum := "b58b22898bbf8593f81afe13f411dc2e6513573c1c22bb00bbc6f871d0b8c724", func := "gouache/gouachelaw07.DomDeep", spec := "domDeep", inPlace := ["slices.overlaps[int]"], unfollowed := true, recurses := true, apart := false, narrowed := true }
def DomDeepUptoSaid : Prop := domDeepUptoRow.holds Try.pinned (OpenSpec.upto domDeepSpec)

/-- 'gouachelaw07.DomWords', WHERE WHAT IT READS IS OF BULK AT MOST 1048576: true; the input reads as it did. -/
def domWordsUptoRow : OpenClaim := { program := "ytmkakofnabfinaa", sum := "b58b22898bbf8593f81afe13f411dc2e6513573c1c22bb00bbc6f871d0b8c724", func := "gouache/gouachelaw07.DomWords", spec := "domWords", inPlace := ["slices.overlaps[int]"], unfollowed := true, recurses := true, apart := false, narrowed := true }
def DomWordsUptoSaid : Prop := domWordsUptoRow.holds Try.pinned (OpenSpec.upto domWordsSpec)

/-- 'gouachelaw07.DomKeeps', WHERE WHAT IT READS IS OF BULK AT MOST 1048576: true; the input reads as it did. -/
def domKeepsUptoRow : OpenClaim := { program := "ytmkakofnabfinaa", sum := "b58b22898bbf8593f81afe13f411dc2e6513573c1c22bb00bbc6f871d0b8c724", func := "gouache/gouachelaw07.DomKeeps", spec := "domKeeps", inPlace := ["slices.overlaps[int]", "slices.overlaps[gouache/api.Attr]"], unfollowed := true, recurses := true, apart := false, narrowed := true }
def DomKeepsUptoSaid : Prop := domKeepsUptoRow.holds Try.pinned (OpenSpec.upto domKeepsSpec)

/-- 'gouachelaw07.DomBack', WHERE WHAT IT READS IS OF BULK AT MOST 1048576: true; the input reads as it did. -/
def domBackUptoRow : OpenClaim := { program := "ytmkakofnabfinaa", sum := "b58b22898bbf8593f81afe13f411dc2e6513573c1c22bb00bbc6f871d0b8c724", func := "gouache/gouachelaw07.DomBack", spec := "domBack", inPlace := ["slices.overlaps[int]", "slices.overlaps[gouache/api.Attr]"], unfollowed := true, recurses := true, apart := false, narrowed := true }
def DomBackUptoSaid : Prop := domBackUptoRow.holds Try.pinned (OpenSpec.upto domBackSpec)

/-- 'gouachelaw07.DomActs', WHERE WHAT IT READS IS OF BULK AT MOST 1048576: true; the input reads as it did. -/
def domActsUptoRow : OpenClaim := { program := "ytmkakofnabfinaa", sum := "b58b22898bbf8593f81afe13f411dc2e6513573c1c22bb00bbc6f871d0b8c724", func := "gouache/gouachelaw07.DomActs", spec := "domActs", inPlace := ["slices.overlaps[int]", "slices.overlaps[gouache/api.Attr]"], unfollowed := true, recurses := true, apart := false, narrowed := true }
def DomActsUptoSaid : Prop := domActsUptoRow.holds Try.pinned (OpenSpec.upto domActsSpec)

/-- 'gouachelaw07.DomShape', WHERE WHAT IT READS IS OF BULK AT MOST 1048576: true; the input reads as it did. -/
def domShapeUptoRow : OpenClaim := { program := "ytmkakofnabfinaa", sum := "b58b22898bbf8593f81afe13f411dc2e6513573c1c22bb00bbc6f871d0b8c724", func := "gouache/gouachelaw07.DomShape", spec := "domShape", inPlace := ["slices.overlaps[int]", "slices.overlaps[gouache/api.Attr]"], unfollowed := true, recurses := true, apart := false, narrowed := true }
def DomShapeUptoSaid : Prop := domShapeUptoRow.holds Try.pinned (OpenSpec.upto domShapeSpec)

/-- 'gouachelaw07.DomNone', WHERE WHAT IT READS IS OF BULK AT MOST 1048576: true; the input reads as it did. -/
def domNoneUptoRow : OpenClaim := { program := "ytmkakofnabfinaa", sum := "b58b22898bbf8593f81afe13f411dc2e6513573c1c22bb00bbc6f871d0b8c724", func := "gouache/gouachelaw07.DomNone", spec := "domNone", inPlace := ["slices.overlaps[int]", "slices.overlaps[gouache/api.Attr]"], unfollowed := true, recurses := true, apart := false, narrowed := true }
def DomNoneUptoSaid : Prop := domNoneUptoRow.holds Try.pinned (OpenSpec.upto domNoneSpec)

/-- 'gouachelaw10.BloomKeys', WHERE WHAT IT READS IS OF BULK AT MOST 1048576: true; the input reads as it did. -/
def bloomKeysUptoRow : OpenClaim := { program := "ytmkakofnabfinaa", sum := "b58b22898bbf8593f81afe13f411dc2e6513573c1c22bb00bbc6f871d0b8c724", func := "gouache/gouachelaw10.BloomKeys", spec := "bloomKeys", unfollowed := true, recurses := true, apart := false, narrowed := true }
def BloomKeysUptoSaid : Prop := bloomKeysUptoRow.holds Try.pinned (OpenSpec.upto bloomKeysSpec)

/-- 'gouachelaw10.BloomNeeds', WHERE WHAT IT READS IS OF BULK AT MOST 1048576: true; the input reads as it did. -/
def bloomNeedsUptoRow : OpenClaim := { program := "ytmkakofnabfinaa", sum := "b58b22898bbf8593f81afe13f411dc2e6513573c1c22bb00bbc6f871d0b8c724", func := "gouache/gouachelaw10.BloomNeeds", spec := "bloomNeeds", unfollowed := true, recurses := true, loops := true, apart := false, narrowed := true }
def BloomNeedsUptoSaid : Prop := bloomNeedsUptoRow.holds Try.pinned (OpenSpec.upto bloomNeedsSpec)

/-- 'gouachelaw10.BloomSets', WHERE WHAT IT READS IS OF BULK AT MOST 1048576: true; the input reads as it did. -/
def bloomSetsUptoRow : OpenClaim := { program := "ytmkakofnabfinaa", sum := "b58b22898bbf8593f81afe13f411dc2e6513573c1c22bb00bbc6f871d0b8c724", func := "gouache/gouachelaw10.BloomSets", spec := "bloomSets", unfollowed := true, recurses := true, apart := false, narrowed := true }
def BloomSetsUptoSaid : Prop := bloomSetsUptoRow.holds Try.pinned (OpenSpec.upto bloomSetsSpec)

end Rows
end Go.Proofs.Ytmkakofnabfinaa
