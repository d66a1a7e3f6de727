/-
  NARROWER THAN 'FOR EVERY INPUT', by the rows' own cells (each row's printed sentence says how): ParseRules: loops · ParseDecls: loops · ParseTrims: loops.
  DERIVED. THE GIVEN ROWS OF THIS SEAT. 7 by the template 'for every input the law returns true; each argument reads behind the call as it read before'; 0 by the template 'total and deterministic' (their statements: YthaaajpmiofodaaTotals.lean).
  GIVEN WITH THE SEED: the statements are not yours to turn. If you find one false, say at which input.
  Laid BY PROGRAM, IN A SANDBOX (cutbox-rows.mjs): the forced cells as the released guide's own fill.sh prints them over the translation 8d1480e59b9cd7a8… (all of the seat's roots in one cut). By AI agents, Wed Nov 11 2026. No macro, syntax, notation, axiom, sorry.
-/
import Derived.Test.YthaaajpmiofodaaChecked
import GoSem.Claim
import GoSem.ClaimJoined
import GoSem.ClaimMapViews
import Derived.JoinedTies
import Derived.KernelRfl
namespace Go.Proofs.Ythaaajpmiofodaa
/- THE CELL 'sum', in the pinned program and in every row, IS THE sha256 OF THE DUMP (.gsa) THAT YthaaajpmiofodaaProg.lean LOADS. Nothing in Lean hashes anything: it is a label: what it is worth is what the hold of that sum in a sandbox is worth. -/
noncomputable def Try.pinned : Pinned := { name := "ythaaajpmiofodaa", sum := "8d1480e59b9cd7a80ed5c741ad567d2848e6a8a35ecbf184fefab7f284942099", checked := Try.checked }
namespace Rows
def none {H : Type} : Left H := { results := [], args := [] }

/-- 'gouachelaw03.ParseValues': WHATEVER THE INPUT: true; the input reads as it did. -/
def parseValuesSpec : ChangeSpec := { name := "parseValues", fn := fun _ => fun
  | [d] => { results := [.lit (.bool true)], args := [d] }
  | _ => none }
def parseValuesRow : OpenClaim := { program := "ythaaajpmiofodaa", sum := "8d1480e59b9cd7a80ed5c741ad567d2848e6a8a35ecbf184fefab7f284942099", func := "gouache/gouachelaw03.ParseValues", spec := "parseValues", unfollowed := true, recurses := true, apart := false }
def ParseValuesSaid : Prop := parseValuesRow.holds Try.pinned (OpenSpec.ofChange parseValuesSpec)

/-- ITS FALSE NEIGHBOUR: 'it returns false'. Refute it at one input. -/
def parseValuesWrong : ChangeSpec := { name := "parseValues", fn := fun _ => fun
  | [d] => { results := [.lit (.bool false)], args := [d] }
  | _ => none }
def ParseValuesWrongFalsely : Prop := parseValuesRow.holds Try.pinned (OpenSpec.ofChange parseValuesWrong)

/-- 'gouachelaw03.ParseRules': WHATEVER THE INPUT: true; the input reads as it did. -/
def parseRulesSpec : ChangeSpec := { name := "parseRules", fn := fun _ => fun
  | [d] => { results := [.lit (.bool true)], args := [d] }
  | _ => none }
def parseRulesRow : OpenClaim := { program := "ythaaajpmiofodaa", sum := "8d1480e59b9cd7a80ed5c741ad567d2848e6a8a35ecbf184fefab7f284942099", func := "gouache/gouachelaw03.ParseRules", spec := "parseRules", unfollowed := true, recurses := true, loops := true, apart := false }
def ParseRulesSaid : Prop := parseRulesRow.holds Try.pinned (OpenSpec.ofChange parseRulesSpec)

/-- ITS FALSE NEIGHBOUR: 'it returns false'. Refute it at one input. -/
def parseRulesWrong : ChangeSpec := { name := "parseRules", fn := fun _ => fun
  | [d] => { results := [.lit (.bool false)], args := [d] }
  | _ => none }
def ParseRulesWrongFalsely : Prop := parseRulesRow.holds Try.pinned (OpenSpec.ofChange parseRulesWrong)

/-- 'gouachelaw03.ParseDecls': WHATEVER THE INPUT: true; the input reads as it did. -/
def parseDeclsSpec : ChangeSpec := { name := "parseDecls", fn := fun _ => fun
  | [d1, d2] => { results := [.lit (.bool true)], args := [d1, d2] }
  | _ => none }
def parseDeclsRow : OpenClaim := { program := "ythaaajpmiofodaa", sum := "8d1480e59b9cd7a80ed5c741ad567d2848e6a8a35ecbf184fefab7f284942099", func := "gouache/gouachelaw03.ParseDecls", spec := "parseDecls", unfollowed := true, recurses := true, loops := true, apart := false }
def ParseDeclsSaid : Prop := parseDeclsRow.holds Try.pinned (OpenSpec.ofChange parseDeclsSpec)

/-- ITS FALSE NEIGHBOUR: 'it returns false'. Refute it at one input. -/
def parseDeclsWrong : ChangeSpec := { name := "parseDecls", fn := fun _ => fun
  | [d1, d2] => { results := [.lit (.bool false)], args := [d1, d2] }
  | _ => none }
def ParseDeclsWrongFalsely : Prop := parseDeclsRow.holds Try.pinned (OpenSpec.ofChange parseDeclsWrong)

/-- 'gouachelaw03.ParseParts': WHATEVER THE INPUT: true; the input reads as it did. -/
def parsePartsSpec : ChangeSpec := { name := "parseParts", fn := fun _ => fun
  | [d1, d2] => { results := [.lit (.bool true)], args := [d1, d2] }
  | _ => none }
def parsePartsRow : OpenClaim := { program := "ythaaajpmiofodaa", sum := "8d1480e59b9cd7a80ed5c741ad567d2848e6a8a35ecbf184fefab7f284942099", func := "gouache/gouachelaw03.ParseParts", spec := "parseParts", unfollowed := true, recurses := true, apart := false }
def ParsePartsSaid : Prop := parsePartsRow.holds Try.pinned (OpenSpec.ofChange parsePartsSpec)

/-- ITS FALSE NEIGHBOUR: 'it returns false'. Refute it at one input. -/
def parsePartsWrong : ChangeSpec := { name := "parseParts", fn := fun _ => fun
  | [d1, d2] => { results := [.lit (.bool false)], args := [d1, d2] }
  | _ => none }
def ParsePartsWrongFalsely : Prop := parsePartsRow.holds Try.pinned (OpenSpec.ofChange parsePartsWrong)

/-- 'gouachelaw03.ParseImportant': WHATEVER THE INPUT: true; the input reads as it did. -/
def parseImportantSpec : ChangeSpec := { name := "parseImportant", fn := fun _ => fun
  | [d1, d2, d3] => { results := [.lit (.bool true)], args := [d1, d2, d3] }
  | _ => none }
def parseImportantRow : OpenClaim := { program := "ythaaajpmiofodaa", sum := "8d1480e59b9cd7a80ed5c741ad567d2848e6a8a35ecbf184fefab7f284942099", func := "gouache/gouachelaw03.ParseImportant", spec := "parseImportant", unfollowed := true, recurses := true, apart := false }
def ParseImportantSaid : Prop := parseImportantRow.holds Try.pinned (OpenSpec.ofChange parseImportantSpec)

/-- ITS FALSE NEIGHBOUR: 'it returns false'. Refute it at one input. -/
def parseImportantWrong : ChangeSpec := { name := "parseImportant", fn := fun _ => fun
  | [d1, d2, d3] => { results := [.lit (.bool false)], args := [d1, d2, d3] }
  | _ => none }
def ParseImportantWrongFalsely : Prop := parseImportantRow.holds Try.pinned (OpenSpec.ofChange parseImportantWrong)

/-- 'gouachelaw03.ParseTrims': WHATEVER THE INPUT: true; the input reads as it did. -/
def parseTrimsSpec : ChangeSpec := { name := "parseTrims", fn := fun _ => fun
  | [d1, d2] => { results := [.lit (.bool true)], args := [d1, d2] }
  | _ => none }
def parseTrimsRow : OpenClaim := { program := "ythaaajpmiofodaa", sum := "8d1480e59b9cd7a80ed5c741ad567d2848e6a8a35ecbf184fefab7f284942099", func := "gouache/gouachelaw03.ParseTrims", spec := "parseTrims", unfollowed := true, recurses := true, loops := true, apart := false }
def ParseTrimsSaid : Prop := parseTrimsRow.holds Try.pinned (OpenSpec.ofChange parseTrimsSpec)

/-- ITS FALSE NEIGHBOUR: 'it returns false'. Refute it at one input. -/
def parseTrimsWrong : ChangeSpec := { name := "parseTrims", fn := fun _ => fun
  | [d1, d2] => { results := [.lit (.bool false)], args := [d1, d2] }
  | _ => none }
def ParseTrimsWrongFalsely : Prop := parseTrimsRow.holds Try.pinned (OpenSpec.ofChange parseTrimsWrong)

/-- 'gouachelaw03.ParseBack': WHATEVER THE INPUT: true; the input reads as it did. -/
def parseBackSpec : ChangeSpec := { name := "parseBack", fn := fun _ => fun
  | [d] => { results := [.lit (.bool true)], args := [d] }
  | _ => none }
def parseBackRow : OpenClaim := { program := "ythaaajpmiofodaa", sum := "8d1480e59b9cd7a80ed5c741ad567d2848e6a8a35ecbf184fefab7f284942099", func := "gouache/gouachelaw03.ParseBack", spec := "parseBack", unfollowed := true, recurses := true, apart := false }
def ParseBackSaid : Prop := parseBackRow.holds Try.pinned (OpenSpec.ofChange parseBackSpec)

/-- ITS FALSE NEIGHBOUR: 'it returns false'. Refute it at one input. -/
def parseBackWrong : ChangeSpec := { name := "parseBack", fn := fun _ => fun
  | [d] => { results := [.lit (.bool false)], args := [d] }
  | _ => none }
def ParseBackWrongFalsely : Prop := parseBackRow.holds Try.pinned (OpenSpec.ofChange parseBackWrong)

/- THE SECOND FORM. 'bulk': how many values and letters a reading holds, each counted each time it is reached (what is shared counts as often as it is met; a slice's spare places count too). A statement '..UptoSaid' is the law's where the arguments, and the package variables that the reading takes, are together of bulk at most 1048576: NARROWER than '..Said'. Prove '..Said' where nothing that the law and all that it calls make is longer than what came in: it says more and counts as full. Else prove '..UptoSaid'. A law counts once. -/
mutual
def uptoBulk {H : Type} : DataW H → Nat
  | .lit (.string bytes) => bytes.length + 1
  | .lit _ => 1
  | .nil => 1
  | .ptr d => uptoBulk d + 1
  | .slice elems spare => uptoBulkAll elems + uptoBulkAll spare + 1
  | .agg parts => uptoBulkAll parts + 1
  | .iface _ d => uptoBulk d + 1
  | .map entries => uptoBulkEntries entries + 1
  | .held _ => 1
def uptoBulkAll {H : Type} : List (DataW H) → Nat
  | [] => 0
  | d :: r => uptoBulk d + uptoBulkAll r
def uptoBulkEntries {H : Type} : List (Lit × DataW H) → Nat
  | [] => 0
  | x :: r => uptoBulkEntry x + uptoBulkEntries r
def uptoBulkEntry {H : Type} : Lit × DataW H → Nat
  | (.string bytes, d) => bytes.length + uptoBulk d + 1
  | (_, d) => uptoBulk d + 1
 end
def uptoSmall : (H : Type) → List (DataW H) → Bool := fun _ ds => decide (uptoBulkAll ds ≤ 1048576)
def OpenSpec.upto (s : _root_.Go.ChangeSpec) : _root_.Go.OpenSpec := { _root_.Go.OpenSpec.ofChange s with cond := some uptoSmall }

/-- 'gouachelaw03.ParseValues', WHERE WHAT IT READS IS OF BULK AT MOST 1048576: true; the input reads as it did. -/
def parseValuesUptoRow : OpenClaim := { program := "ythaaajpmiofodaa", sum := "8d1480e59b9cd7a80ed5c741ad567d2848e6a8a35ecbf184fefab7f284942099", func := "gouache/gouachelaw03.ParseValues", spec := "parseValues", unfollowed := true, recurses := true, apart := false, narrowed := true }
def ParseValuesUptoSaid : Prop := parseValuesUptoRow.holds Try.pinned (OpenSpec.upto parseValuesSpec)

/-- 'gouachelaw03.ParseRules', WHERE WHAT IT READS IS OF BULK AT MOST 1048576: true; the input reads as it did. -/
def parseRulesUptoRow : OpenClaim := { program := "ythaaajpmiofodaa", sum := "8d1480e59b9cd7a80ed5c741ad567d2848e6a8a35ecbf184fefab7f284942099", func := "gouache/gouachelaw03.ParseRules", spec := "parseRules", unfollowed := true, recurses := true, loops := true, apart := false, narrowed := true }
def ParseRulesUptoSaid : Prop := parseRulesUptoRow.holds Try.pinned (OpenSpec.upto parseRulesSpec)

/-- 'gouachelaw03.ParseDecls', WHERE WHAT IT READS IS OF BULK AT MOST 1048576: true; the input reads as it did. -/
def parseDeclsUptoRow : OpenClaim := { program := "ythaaajpmiofodaa", sum := "8d1480e59b9cd7a80ed5c741ad567d2848e6a8a35ecbf184fefab7f284942099", func := "gouache/gouachelaw03.ParseDecls", spec := "parseDecls", unfollowed := true, recurses := true, loops := true, apart := false, narrowed := true }
def ParseDeclsUptoSaid : Prop := parseDeclsUptoRow.holds Try.pinned (OpenSpec.upto parseDeclsSpec)

/-- 'gouachelaw03.ParseParts', WHERE WHAT IT READS IS OF BULK AT MOST 1048576: true; the input reads as it did. -/
def parsePartsUptoRow : OpenClaim := { program := "ythaaajpmiofodaa", sum := "8d1480e59b9cd7a80ed5c741ad567d2848e6a8a35ecbf184fefab7f284942099", func := "gouache/gouachelaw03.ParseParts", spec := "parseParts", unfollowed := true, recurses := true, apart := false, narrowed := true }
def ParsePartsUptoSaid : Prop := parsePartsUptoRow.holds Try.pinned (OpenSpec.upto parsePartsSpec)

/-- 'gouachelaw03.ParseImportant', WHERE WHAT IT READS IS OF BULK AT MOST 1048576: true; the input reads as it did. -/
def parseImportantUptoRow : OpenClaim := { program := "ythaaajpmiofodaa", sum := "8d1480e59b9cd7a80ed5c741ad567d2848e6a8a35ecbf184fefab7f284942099", func := "gouache/gouachelaw03.ParseImportant", spec := "parseImportant", unfollowed := true, recurses := true, apart := false, narrowed := true }
def ParseImportantUptoSaid : Prop := parseImportantUptoRow.holds Try.pinned (OpenSpec.upto parseImportantSpec)

/-- 'gouachelaw03.ParseTrims', WHERE WHAT IT READS IS OF BULK AT MOST 1048576: true; the input reads as it did. -/
def parseTrimsUptoRow : OpenClaim := { program := "ythaaajpmiofodaa", sum := "8d1480e59b9cd7a80ed5c741ad567d2848e6a8a35ecbf184fefab7f284942099", func := "gouache/gouachelaw03.ParseTrims", spec := "parseTrims", unfollowed := true, recurses := true, loops := true, apart := false, narrowed := true }
def ParseTrimsUptoSaid : Prop := parseTrimsUptoRow.holds Try.pinned (OpenSpec.upto parseTrimsSpec)

/-- 'gouachelaw03.ParseBack', WHERE WHAT IT READS IS OF BULK AT MOST 1048576: true; the input reads as it did. -/
def parseBackUptoRow : OpenClaim := { program := "ythaaajpmiofodaa", sum := "8d1480e59b9cd7a80ed5c741ad567d2848e6a8a35ecbf184fefab7f284942099", func := "gouache/gouachelaw03.ParseBack", spec := "parseBack", unfollowed := true, recurses := true, apart := false, narrowed := true }
def ParseBackUptoSaid : Prop := parseBackUptoRow.holds Try.pinned (OpenSpec.upto parseBackSpec)

end Rows
end Go.Proofs.Ythaaajpmiofodaa
