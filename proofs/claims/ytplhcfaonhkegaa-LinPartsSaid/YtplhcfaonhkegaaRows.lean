/-
  No cell of these rows narrows 'for every input' (looked for: loops, veiled, ifaces, maps, wideKeys, modest, calm, conditions, laid).
  DERIVED. THE GIVEN ROWS OF THIS SEAT. 18 by the template 'for every input the law returns true; each argument reads behind the call as it read before'; 0 by the template 'total and deterministic' (their statements: YtplhcfaonhkegaaTotals.lean).
  GIVEN WITH THE SEED: the statements are not yours to turn. If you find one false, say at which input.
  Laid BY PROGRAM, IN A SANDBOX (cutbox-rows.mjs): the forced cells as the released guide's own fill.sh prints them over the translation 6e404feebcb8ca06… (all of the seat's roots in one cut). By AI agents, Wed Nov 11 2026. No macro, syntax, notation, axiom, sorry.
-/
import Derived.Test.YtplhcfaonhkegaaChecked
import GoSem.Claim
import GoSem.ClaimJoined
import GoSem.ClaimMapViews
import Derived.JoinedTies
import Derived.KernelRfl
namespace Go.Proofs.Ytplhcfaonhkegaa
/- THE CELL 'sum', in the pinned program and in every row, IS THE sha256 OF THE DUMP (.gsa) THAT YtplhcfaonhkegaaProg.lean LOADS. Nothing in Lean hashes anything: it is a label: what it is worth is what the hold of that sum in a sandbox is worth. -/
noncomputable def Try.pinned : Pinned := { name := "ytplhcfaonhkegaa", sum := "6e404feebcb8ca06db0083a179eba8e8fb660bd8f4b9cebb27231c88686107f7", checked := Try.checked }
namespace Rows
def none {H : Type} : Left H := { results := [], args := [] }

/-- 'leapfroglaw10.ModelRuns': WHATEVER THE INPUT: true; the input reads as it did. -/
def modelRunsSpec : ChangeSpec := { name := "modelRuns", fn := fun _ => fun
  | [d1, d2] => { results := [.lit (.bool true)], args := [d1, d2] }
  | _ => none }
def modelRunsRow : OpenClaim := { program := "ytplhcfaonhkegaa", sum := "6e404feebcb8ca06db0083a179eba8e8fb660bd8f4b9cebb27231c88686107f7", func := "leapfrog/leapfroglaw10.ModelRuns", spec := "modelRuns", inPlace := ["slices.overlaps[leapfrog/api.Item]"], unfollowed := true, recurses := true, plainKeys := false, apart := false }
def ModelRunsSaid : Prop := modelRunsRow.holds Try.pinned (OpenSpec.ofChange modelRunsSpec)

/-- ITS FALSE NEIGHBOUR: 'it returns false'. Refute it at one input. -/
def modelRunsWrong : ChangeSpec := { name := "modelRuns", fn := fun _ => fun
  | [d1, d2] => { results := [.lit (.bool false)], args := [d1, d2] }
  | _ => none }
def ModelRunsWrongFalsely : Prop := modelRunsRow.holds Try.pinned (OpenSpec.ofChange modelRunsWrong)

/-- 'leapfroglaw10.ModelApart': WHATEVER THE INPUT: true; the input reads as it did. -/
def modelApartSpec : ChangeSpec := { name := "modelApart", fn := fun _ => fun
  | [d1, d2, d3] => { results := [.lit (.bool true)], args := [d1, d2, d3] }
  | _ => none }
def modelApartRow : OpenClaim := { program := "ytplhcfaonhkegaa", sum := "6e404feebcb8ca06db0083a179eba8e8fb660bd8f4b9cebb27231c88686107f7", func := "leapfrog/leapfroglaw10.ModelApart", spec := "modelApart", inPlace := ["slices.overlaps[leapfrog/api.Item]"], unfollowed := true, recurses := true, plainKeys := false, apart := false }
def ModelApartSaid : Prop := modelApartRow.holds Try.pinned (OpenSpec.ofChange modelApartSpec)

/-- ITS FALSE NEIGHBOUR: 'it returns false'. Refute it at one input. -/
def modelApartWrong : ChangeSpec := { name := "modelApart", fn := fun _ => fun
  | [d1, d2, d3] => { results := [.lit (.bool false)], args := [d1, d2, d3] }
  | _ => none }
def ModelApartWrongFalsely : Prop := modelApartRow.holds Try.pinned (OpenSpec.ofChange modelApartWrong)

/-- 'leapfroglaw10.ModelOne': WHATEVER THE INPUT: true; the input reads as it did. -/
def modelOneSpec : ChangeSpec := { name := "modelOne", fn := fun _ => fun
  | [d1, d2, d3] => { results := [.lit (.bool true)], args := [d1, d2, d3] }
  | _ => none }
def modelOneRow : OpenClaim := { program := "ytplhcfaonhkegaa", sum := "6e404feebcb8ca06db0083a179eba8e8fb660bd8f4b9cebb27231c88686107f7", func := "leapfrog/leapfroglaw10.ModelOne", spec := "modelOne", inPlace := ["slices.overlaps[leapfrog/api.Item]"], unfollowed := true, recurses := true, plainKeys := false, apart := false }
def ModelOneSaid : Prop := modelOneRow.holds Try.pinned (OpenSpec.ofChange modelOneSpec)

/-- ITS FALSE NEIGHBOUR: 'it returns false'. Refute it at one input. -/
def modelOneWrong : ChangeSpec := { name := "modelOne", fn := fun _ => fun
  | [d1, d2, d3] => { results := [.lit (.bool false)], args := [d1, d2, d3] }
  | _ => none }
def ModelOneWrongFalsely : Prop := modelOneRow.holds Try.pinned (OpenSpec.ofChange modelOneWrong)

/-- 'leapfroglaw10.ModelReads': WHATEVER THE INPUT: true; the input reads as it did. -/
def modelReadsSpec : ChangeSpec := { name := "modelReads", fn := fun _ => fun
  | [d1, d2, d3] => { results := [.lit (.bool true)], args := [d1, d2, d3] }
  | _ => none }
def modelReadsRow : OpenClaim := { program := "ytplhcfaonhkegaa", sum := "6e404feebcb8ca06db0083a179eba8e8fb660bd8f4b9cebb27231c88686107f7", func := "leapfrog/leapfroglaw10.ModelReads", spec := "modelReads", inPlace := ["slices.overlaps[leapfrog/api.Item]"], unfollowed := true, recurses := true, plainKeys := false, apart := false }
def ModelReadsSaid : Prop := modelReadsRow.holds Try.pinned (OpenSpec.ofChange modelReadsSpec)

/-- ITS FALSE NEIGHBOUR: 'it returns false'. Refute it at one input. -/
def modelReadsWrong : ChangeSpec := { name := "modelReads", fn := fun _ => fun
  | [d1, d2, d3] => { results := [.lit (.bool false)], args := [d1, d2, d3] }
  | _ => none }
def ModelReadsWrongFalsely : Prop := modelReadsRow.holds Try.pinned (OpenSpec.ofChange modelReadsWrong)

/-- 'leapfroglaw10.ModelForms': WHATEVER THE INPUT: true; the input reads as it did. -/
def modelFormsSpec : ChangeSpec := { name := "modelForms", fn := fun _ => fun
  | [d1, d2, d3, d4] => { results := [.lit (.bool true)], args := [d1, d2, d3, d4] }
  | _ => none }
def modelFormsRow : OpenClaim := { program := "ytplhcfaonhkegaa", sum := "6e404feebcb8ca06db0083a179eba8e8fb660bd8f4b9cebb27231c88686107f7", func := "leapfrog/leapfroglaw10.ModelForms", spec := "modelForms", inPlace := ["slices.overlaps[leapfrog/api.Item]"], unfollowed := true, recurses := true, plainKeys := false, apart := false }
def ModelFormsSaid : Prop := modelFormsRow.holds Try.pinned (OpenSpec.ofChange modelFormsSpec)

/-- ITS FALSE NEIGHBOUR: 'it returns false'. Refute it at one input. -/
def modelFormsWrong : ChangeSpec := { name := "modelForms", fn := fun _ => fun
  | [d1, d2, d3, d4] => { results := [.lit (.bool false)], args := [d1, d2, d3, d4] }
  | _ => none }
def ModelFormsWrongFalsely : Prop := modelFormsRow.holds Try.pinned (OpenSpec.ofChange modelFormsWrong)

/-- 'leapfroglaw10.ModelDoes': WHATEVER THE INPUT: true; the input reads as it did. -/
def modelDoesSpec : ChangeSpec := { name := "modelDoes", fn := fun _ => fun
  | [d1, d2, d3] => { results := [.lit (.bool true)], args := [d1, d2, d3] }
  | _ => none }
def modelDoesRow : OpenClaim := { program := "ytplhcfaonhkegaa", sum := "6e404feebcb8ca06db0083a179eba8e8fb660bd8f4b9cebb27231c88686107f7", func := "leapfrog/leapfroglaw10.ModelDoes", spec := "modelDoes", inPlace := ["slices.overlaps[leapfrog/api.Item]"], unfollowed := true, recurses := true, plainKeys := false, apart := false }
def ModelDoesSaid : Prop := modelDoesRow.holds Try.pinned (OpenSpec.ofChange modelDoesSpec)

/-- ITS FALSE NEIGHBOUR: 'it returns false'. Refute it at one input. -/
def modelDoesWrong : ChangeSpec := { name := "modelDoes", fn := fun _ => fun
  | [d1, d2, d3] => { results := [.lit (.bool false)], args := [d1, d2, d3] }
  | _ => none }
def ModelDoesWrongFalsely : Prop := modelDoesRow.holds Try.pinned (OpenSpec.ofChange modelDoesWrong)

/-- 'leapfroglaw22.HistTrue': WHATEVER THE INPUT: true; the input reads as it did. -/
def histTrueSpec : ChangeSpec := { name := "histTrue", fn := fun _ => fun
  | [d1, d2] => { results := [.lit (.bool true)], args := [d1, d2] }
  | _ => none }
def histTrueRow : OpenClaim := { program := "ytplhcfaonhkegaa", sum := "6e404feebcb8ca06db0083a179eba8e8fb660bd8f4b9cebb27231c88686107f7", func := "leapfrog/leapfroglaw22.HistTrue", spec := "histTrue", unfollowed := true, recurses := true, plainKeys := false, apart := false }
def HistTrueSaid : Prop := histTrueRow.holds Try.pinned (OpenSpec.ofChange histTrueSpec)

/-- ITS FALSE NEIGHBOUR: 'it returns false'. Refute it at one input. -/
def histTrueWrong : ChangeSpec := { name := "histTrue", fn := fun _ => fun
  | [d1, d2] => { results := [.lit (.bool false)], args := [d1, d2] }
  | _ => none }
def HistTrueWrongFalsely : Prop := histTrueRow.holds Try.pinned (OpenSpec.ofChange histTrueWrong)

/-- 'leapfroglaw22.HistOrder': WHATEVER THE INPUT: true; the input reads as it did. -/
def histOrderSpec : ChangeSpec := { name := "histOrder", fn := fun _ => fun
  | [d] => { results := [.lit (.bool true)], args := [d] }
  | _ => none }
def histOrderRow : OpenClaim := { program := "ytplhcfaonhkegaa", sum := "6e404feebcb8ca06db0083a179eba8e8fb660bd8f4b9cebb27231c88686107f7", func := "leapfrog/leapfroglaw22.HistOrder", spec := "histOrder", unfollowed := true, recurses := true, plainKeys := false, apart := false }
def HistOrderSaid : Prop := histOrderRow.holds Try.pinned (OpenSpec.ofChange histOrderSpec)

/-- ITS FALSE NEIGHBOUR: 'it returns false'. Refute it at one input. -/
def histOrderWrong : ChangeSpec := { name := "histOrder", fn := fun _ => fun
  | [d] => { results := [.lit (.bool false)], args := [d] }
  | _ => none }
def HistOrderWrongFalsely : Prop := histOrderRow.holds Try.pinned (OpenSpec.ofChange histOrderWrong)

/-- 'leapfroglaw22.HistRuns': WHATEVER THE INPUT: true; the input reads as it did. -/
def histRunsSpec : ChangeSpec := { name := "histRuns", fn := fun _ => fun
  | [d] => { results := [.lit (.bool true)], args := [d] }
  | _ => none }
def histRunsRow : OpenClaim := { program := "ytplhcfaonhkegaa", sum := "6e404feebcb8ca06db0083a179eba8e8fb660bd8f4b9cebb27231c88686107f7", func := "leapfrog/leapfroglaw22.HistRuns", spec := "histRuns", unfollowed := true, recurses := true, plainKeys := false, apart := false }
def HistRunsSaid : Prop := histRunsRow.holds Try.pinned (OpenSpec.ofChange histRunsSpec)

/-- ITS FALSE NEIGHBOUR: 'it returns false'. Refute it at one input. -/
def histRunsWrong : ChangeSpec := { name := "histRuns", fn := fun _ => fun
  | [d] => { results := [.lit (.bool false)], args := [d] }
  | _ => none }
def HistRunsWrongFalsely : Prop := histRunsRow.holds Try.pinned (OpenSpec.ofChange histRunsWrong)

/-- 'leapfroglaw22.HistFull': WHATEVER THE INPUT: true; the input reads as it did. -/
def histFullSpec : ChangeSpec := { name := "histFull", fn := fun _ => fun
  | [d] => { results := [.lit (.bool true)], args := [d] }
  | _ => none }
def histFullRow : OpenClaim := { program := "ytplhcfaonhkegaa", sum := "6e404feebcb8ca06db0083a179eba8e8fb660bd8f4b9cebb27231c88686107f7", func := "leapfrog/leapfroglaw22.HistFull", spec := "histFull", unfollowed := true, recurses := true, plainKeys := false, apart := false }
def HistFullSaid : Prop := histFullRow.holds Try.pinned (OpenSpec.ofChange histFullSpec)

/-- ITS FALSE NEIGHBOUR: 'it returns false'. Refute it at one input. -/
def histFullWrong : ChangeSpec := { name := "histFull", fn := fun _ => fun
  | [d] => { results := [.lit (.bool false)], args := [d] }
  | _ => none }
def HistFullWrongFalsely : Prop := histFullRow.holds Try.pinned (OpenSpec.ofChange histFullWrong)

/-- 'leapfroglaw22.HistNobody': WHATEVER THE INPUT: true; the input reads as it did. -/
def histNobodySpec : ChangeSpec := { name := "histNobody", fn := fun _ => fun
  | [d] => { results := [.lit (.bool true)], args := [d] }
  | _ => none }
def histNobodyRow : OpenClaim := { program := "ytplhcfaonhkegaa", sum := "6e404feebcb8ca06db0083a179eba8e8fb660bd8f4b9cebb27231c88686107f7", func := "leapfrog/leapfroglaw22.HistNobody", spec := "histNobody", unfollowed := true, recurses := true, plainKeys := false, apart := false }
def HistNobodySaid : Prop := histNobodyRow.holds Try.pinned (OpenSpec.ofChange histNobodySpec)

/-- ITS FALSE NEIGHBOUR: 'it returns false'. Refute it at one input. -/
def histNobodyWrong : ChangeSpec := { name := "histNobody", fn := fun _ => fun
  | [d] => { results := [.lit (.bool false)], args := [d] }
  | _ => none }
def HistNobodyWrongFalsely : Prop := histNobodyRow.holds Try.pinned (OpenSpec.ofChange histNobodyWrong)

/-- 'leapfroglaw24.LinNone': WHATEVER THE INPUT: true; the input reads as it did. -/
def linNoneSpec : ChangeSpec := { name := "linNone", fn := fun _ => fun
  | [d1, d2] => { results := [.lit (.bool true)], args := [d1, d2] }
  | _ => none }
def linNoneRow : OpenClaim := { program := "ytplhcfaonhkegaa", sum := "6e404feebcb8ca06db0083a179eba8e8fb660bd8f4b9cebb27231c88686107f7", func := "leapfrog/leapfroglaw24.LinNone", spec := "linNone", inPlace := ["internal/abi.NoEscape", "slices.overlaps[leapfrog/api.Item]"], unfollowed := true, recurses := true, plainKeys := false, apart := false }
def LinNoneSaid : Prop := linNoneRow.holds Try.pinned (OpenSpec.ofChange linNoneSpec)

/-- ITS FALSE NEIGHBOUR: 'it returns false'. Refute it at one input. -/
def linNoneWrong : ChangeSpec := { name := "linNone", fn := fun _ => fun
  | [d1, d2] => { results := [.lit (.bool false)], args := [d1, d2] }
  | _ => none }
def LinNoneWrongFalsely : Prop := linNoneRow.holds Try.pinned (OpenSpec.ofChange linNoneWrong)

/-- 'leapfroglaw24.LinShorter': WHATEVER THE INPUT: true; the input reads as it did. -/
def linShorterSpec : ChangeSpec := { name := "linShorter", fn := fun _ => fun
  | [d1, d2] => { results := [.lit (.bool true)], args := [d1, d2] }
  | _ => none }
def linShorterRow : OpenClaim := { program := "ytplhcfaonhkegaa", sum := "6e404feebcb8ca06db0083a179eba8e8fb660bd8f4b9cebb27231c88686107f7", func := "leapfrog/leapfroglaw24.LinShorter", spec := "linShorter", inPlace := ["internal/abi.NoEscape", "slices.overlaps[leapfrog/api.Item]"], unfollowed := true, recurses := true, plainKeys := false, apart := false }
def LinShorterSaid : Prop := linShorterRow.holds Try.pinned (OpenSpec.ofChange linShorterSpec)

/-- ITS FALSE NEIGHBOUR: 'it returns false'. Refute it at one input. -/
def linShorterWrong : ChangeSpec := { name := "linShorter", fn := fun _ => fun
  | [d1, d2] => { results := [.lit (.bool false)], args := [d1, d2] }
  | _ => none }
def LinShorterWrongFalsely : Prop := linShorterRow.holds Try.pinned (OpenSpec.ofChange linShorterWrong)

/-- 'leapfroglaw24.LinFollows': WHATEVER THE INPUT: true; the input reads as it did. -/
def linFollowsSpec : ChangeSpec := { name := "linFollows", fn := fun _ => fun
  | [d1, d2] => { results := [.lit (.bool true)], args := [d1, d2] }
  | _ => none }
def linFollowsRow : OpenClaim := { program := "ytplhcfaonhkegaa", sum := "6e404feebcb8ca06db0083a179eba8e8fb660bd8f4b9cebb27231c88686107f7", func := "leapfrog/leapfroglaw24.LinFollows", spec := "linFollows", inPlace := ["slices.overlaps[leapfrog/api.Item]", "internal/abi.NoEscape"], unfollowed := true, recurses := true, plainKeys := false, apart := false }
def LinFollowsSaid : Prop := linFollowsRow.holds Try.pinned (OpenSpec.ofChange linFollowsSpec)

/-- ITS FALSE NEIGHBOUR: 'it returns false'. Refute it at one input. -/
def linFollowsWrong : ChangeSpec := { name := "linFollows", fn := fun _ => fun
  | [d1, d2] => { results := [.lit (.bool false)], args := [d1, d2] }
  | _ => none }
def LinFollowsWrongFalsely : Prop := linFollowsRow.holds Try.pinned (OpenSpec.ofChange linFollowsWrong)

/-- 'leapfroglaw24.LinTakes': WHATEVER THE INPUT: true; the input reads as it did. -/
def linTakesSpec : ChangeSpec := { name := "linTakes", fn := fun _ => fun
  | [d] => { results := [.lit (.bool true)], args := [d] }
  | _ => none }
def linTakesRow : OpenClaim := { program := "ytplhcfaonhkegaa", sum := "6e404feebcb8ca06db0083a179eba8e8fb660bd8f4b9cebb27231c88686107f7", func := "leapfrog/leapfroglaw24.LinTakes", spec := "linTakes", inPlace := ["internal/abi.NoEscape", "slices.overlaps[leapfrog/api.Item]"], unfollowed := true, recurses := true, plainKeys := false, apart := false }
def LinTakesSaid : Prop := linTakesRow.holds Try.pinned (OpenSpec.ofChange linTakesSpec)

/-- ITS FALSE NEIGHBOUR: 'it returns false'. Refute it at one input. -/
def linTakesWrong : ChangeSpec := { name := "linTakes", fn := fun _ => fun
  | [d] => { results := [.lit (.bool false)], args := [d] }
  | _ => none }
def LinTakesWrongFalsely : Prop := linTakesRow.holds Try.pinned (OpenSpec.ofChange linTakesWrong)

/-- 'leapfroglaw24.LinParts': WHATEVER THE INPUT: true; the input reads as it did. -/
def linPartsSpec : ChangeSpec := { name := "linParts", fn := fun _ => fun
  | [d] => { results := [.lit (.bool true)], args := [d] }
  | _ => none }
def linPartsRow : OpenClaim := { program := "ytplhcfaonhkegaa", sum := "6e404feebcb8ca06db0083a179eba8e8fb660bd8f4b9cebb27231c88686107f7", func := "leapfrog/leapfroglaw24.LinParts", spec := "linParts", inPlace := ["internal/abi.NoEscape", "slices.overlaps[leapfrog/api.Item]"], unfollowed := true, recurses := true, plainKeys := false, apart := false }
def LinPartsSaid : Prop := linPartsRow.holds Try.pinned (OpenSpec.ofChange linPartsSpec)

/-- ITS FALSE NEIGHBOUR: 'it returns false'. Refute it at one input. -/
def linPartsWrong : ChangeSpec := { name := "linParts", fn := fun _ => fun
  | [d] => { results := [.lit (.bool false)], args := [d] }
  | _ => none }
def LinPartsWrongFalsely : Prop := linPartsRow.holds Try.pinned (OpenSpec.ofChange linPartsWrong)

/-- 'leapfroglaw24.LinLocal': WHATEVER THE INPUT: true; the input reads as it did. -/
def linLocalSpec : ChangeSpec := { name := "linLocal", fn := fun _ => fun
  | [d] => { results := [.lit (.bool true)], args := [d] }
  | _ => none }
def linLocalRow : OpenClaim := { program := "ytplhcfaonhkegaa", sum := "6e404feebcb8ca06db0083a179eba8e8fb660bd8f4b9cebb27231c88686107f7", func := "leapfrog/leapfroglaw24.LinLocal", spec := "linLocal", inPlace := ["internal/abi.NoEscape", "slices.overlaps[leapfrog/api.Item]"], unfollowed := true, recurses := true, plainKeys := false, apart := false }
def LinLocalSaid : Prop := linLocalRow.holds Try.pinned (OpenSpec.ofChange linLocalSpec)

/-- ITS FALSE NEIGHBOUR: 'it returns false'. Refute it at one input. -/
def linLocalWrong : ChangeSpec := { name := "linLocal", fn := fun _ => fun
  | [d] => { results := [.lit (.bool false)], args := [d] }
  | _ => none }
def LinLocalWrongFalsely : Prop := linLocalRow.holds Try.pinned (OpenSpec.ofChange linLocalWrong)

/-- 'leapfroglaw24.LinWas': WHATEVER THE INPUT: true; the input reads as it did. -/
def linWasSpec : ChangeSpec := { name := "linWas", fn := fun _ => fun
  | [d] => { results := [.lit (.bool true)], args := [d] }
  | _ => none }
def linWasRow : OpenClaim := { program := "ytplhcfaonhkegaa", sum := "6e404feebcb8ca06db0083a179eba8e8fb660bd8f4b9cebb27231c88686107f7", func := "leapfrog/leapfroglaw24.LinWas", spec := "linWas", inPlace := ["internal/abi.NoEscape", "slices.overlaps[leapfrog/api.Item]"], unfollowed := true, recurses := true, plainKeys := false, apart := false }
def LinWasSaid : Prop := linWasRow.holds Try.pinned (OpenSpec.ofChange linWasSpec)

/-- ITS FALSE NEIGHBOUR: 'it returns false'. Refute it at one input. -/
def linWasWrong : ChangeSpec := { name := "linWas", fn := fun _ => fun
  | [d] => { results := [.lit (.bool false)], args := [d] }
  | _ => none }
def LinWasWrongFalsely : Prop := linWasRow.holds Try.pinned (OpenSpec.ofChange linWasWrong)

/- THE SECOND FORM. 'bulk': how many values and letters a reading holds, each counted each time it is reached (what is shared counts as often as it is met; a slice's spare places count too). A statement '..UptoSaid' is the law's where the arguments, and the package variables that the reading takes, are together of bulk at most 1048576: NARROWER than '..Said'. Prove '..Said' where nothing that the law and all that it calls make is longer than what came in: it says more and counts as full. Else prove '..UptoSaid'. A law counts once. -/
mutual
def uptoBulk {H : Type} : DataW H → Nat
  | .lit (.string bytes) => bytes.length + 1
  | .lit _ => 1
  | .nil => 1
  | .ptr d => uptoBulk d + 1
  | .slice elems spare => uptoBulkAll elems + uptoBulkAll spare + 1
  | .agg parts => uptoBulkAll parts + 1
  | .iface _ d => uptoBulk d + 1
  | .map entries => uptoBulkEntries entries + 1
  | .held _ => 1
def uptoBulkAll {H : Type} : List (DataW H) → Nat
  | [] => 0
  | d :: r => uptoBulk d + uptoBulkAll r
def uptoBulkEntries {H : Type} : List (Lit × DataW H) → Nat
  | [] => 0
  | x :: r => uptoBulkEntry x + uptoBulkEntries r
def uptoBulkEntry {H : Type} : Lit × DataW H → Nat
  | (.string bytes, d) => bytes.length + uptoBulk d + 1
  | (_, d) => uptoBulk d + 1
 end
def uptoSmall : (H : Type) → List (DataW H) → Bool := fun _ ds => decide (uptoBulkAll ds ≤ 1048576)
def OpenSpec.upto (s : _root_.Go.ChangeSpec) : _root_.Go.OpenSpec := { _root_.Go.OpenSpec.ofChange s with cond := some uptoSmall }

/-- 'leapfroglaw10.ModelRuns', WHERE WHAT IT READS IS OF BULK AT MOST 1048576: true; the input reads as it did. -/
def modelRunsUptoRow : OpenClaim := { program := "ytplhcfaonhkegaa", sum := "6e404feebcb8ca06db0083a179eba8e8fb660bd8f4b9cebb27231c88686107f7", func := "leapfrog/leapfroglaw10.ModelRuns", spec := "modelRuns", inPlace := ["slices.overlaps[leapfrog/api.Item]"], unfollowed := true, recurses := true, plainKeys := false, apart := false, narrowed := true }
def ModelRunsUptoSaid : Prop := modelRunsUptoRow.holds Try.pinned (OpenSpec.upto modelRunsSpec)

/-- 'leapfroglaw10.ModelApart', WHERE WHAT IT READS IS OF BULK AT MOST 1048576: true; the input reads as it did. -/
def modelApartUptoRow : OpenClaim := { program := "ytplhcfaonhkegaa", sum := "6e404feebcb8ca06db0083a179eba8e8fb660bd8f4b9cebb27231c88686107f7", func := "leapfrog/leapfroglaw10.ModelApart", spec := "modelApart", inPlace := ["slices.overlaps[leapfrog/api.Item]"], unfollowed := true, recurses := true, plainKeys := false, apart := false, narrowed := true }
def ModelApartUptoSaid : Prop := modelApartUptoRow.holds Try.pinned (OpenSpec.upto modelApartSpec)

/-- 'leapfroglaw10.ModelOne', WHERE WHAT IT READS IS OF BULK AT MOST 1048576: true; the input reads as it did. -/
def modelOneUptoRow : OpenClaim := { program := "ytplhcfaonhkegaa", sum := "6e404feebcb8ca06db0083a179eba8e8fb660bd8f4b9cebb27231c88686107f7", func := "leapfrog/leapfroglaw10.ModelOne", spec := "modelOne", inPlace := ["slices.overlaps[leapfrog/api.Item]"], unfollowed := true, recurses := true, plainKeys := false, apart := false, narrowed := true }
def ModelOneUptoSaid : Prop := modelOneUptoRow.holds Try.pinned (OpenSpec.upto modelOneSpec)

/-- 'leapfroglaw10.ModelReads', WHERE WHAT IT READS IS OF BULK AT MOST 1048576: true; the input reads as it did. -/
def modelReadsUptoRow : OpenClaim := { program := "ytplhcfaonhkegaa", sum := "6e404feebcb8ca06db0083a179eba8e8fb660bd8f4b9cebb27231c88686107f7", func := "leapfrog/leapfroglaw10.ModelReads", spec := "modelReads", inPlace := ["slices.overlaps[leapfrog/api.Item]"], unfollowed := true, recurses := true, plainKeys := false, apart := false, narrowed := true }
def ModelReadsUptoSaid : Prop := modelReadsUptoRow.holds Try.pinned (OpenSpec.upto modelReadsSpec)

/-- 'leapfroglaw10.ModelForms', WHERE WHAT IT READS IS OF BULK AT MOST 1048576: true; the input reads as it did. -/
def modelFormsUptoRow : OpenClaim := { program := "ytplhcfaonhkegaa", sum := "6e404feebcb8ca06db0083a179eba8e8fb660bd8f4b9cebb27231c88686107f7", func := "leapfrog/leapfroglaw10.ModelForms", spec := "modelForms", inPlace := ["slices.overlaps[leapfrog/api.Item]"], unfollowed := true, recurses := true, plainKeys := false, apart := false, narrowed := true }
def ModelFormsUptoSaid : Prop := modelFormsUptoRow.holds Try.pinned (OpenSpec.upto modelFormsSpec)

/-- 'leapfroglaw10.ModelDoes', WHERE WHAT IT READS IS OF BULK AT MOST 1048576: true; the input reads as it did. -/
def modelDoesUptoRow : OpenClaim := { program := "ytplhcfaonhkegaa", sum := "6e404feebcb8ca06db0083a179eba8e8fb660bd8f4b9cebb27231c88686107f7", func := "leapfrog/leapfroglaw10.ModelDoes", spec := "modelDoes", inPlace := ["slices.overlaps[leapfrog/api.Item]"], unfollowed := true, recurses := true, plainKeys := false, apart := false, narrowed := true }
def ModelDoesUptoSaid : Prop := modelDoesUptoRow.holds Try.pinned (OpenSpec.upto modelDoesSpec)

/-- 'leapfroglaw22.HistTrue', WHERE WHAT IT READS IS OF BULK AT MOST 1048576: true; the input reads as it did. -/
def histTrueUptoRow : OpenClaim := { program := "ytplhcfaonhkegaa", sum := "6e404feebcb8ca06db0083a179eba8e8fb660bd8f4b9cebb27231c88686107f7", func := "leapfrog/leapfroglaw22.HistTrue", spec := "histTrue", unfollowed := true, recurses := true, plainKeys := false, apart := false, narrowed := true }
def HistTrueUptoSaid : Prop := histTrueUptoRow.holds Try.pinned (OpenSpec.upto histTrueSpec)

/-- 'leapfroglaw22.HistOrder', WHERE WHAT IT READS IS OF BULK AT MOST 1048576: true; the input reads as it did. -/
def histOrderUptoRow : OpenClaim := { program := "ytplhcfaonhkegaa", sum := "6e404feebcb8ca06db0083a179eba8e8fb660bd8f4b9cebb27231c88686107f7", func := "leapfrog/leapfroglaw22.HistOrder", spec := "histOrder", unfollowed := true, recurses := true, plainKeys := false, apart := false, narrowed := true }
def HistOrderUptoSaid : Prop := histOrderUptoRow.holds Try.pinned (OpenSpec.upto histOrderSpec)

/-- 'leapfroglaw22.HistRuns', WHERE WHAT IT READS IS OF BULK AT MOST 1048576: true; the input reads as it did. -/
def histRunsUptoRow : OpenClaim := { program := "ytplhcfaonhkegaa", sum := "6e404feebcb8ca06db0083a179eba8e8fb660bd8f4b9cebb27231c88686107f7", func := "leapfrog/leapfroglaw22.HistRuns", spec := "histRuns", unfollowed := true, recurses := true, plainKeys := false, apart := false, narrowed := true }
def HistRunsUptoSaid : Prop := histRunsUptoRow.holds Try.pinned (OpenSpec.upto histRunsSpec)

/-- 'leapfroglaw22.HistFull', WHERE WHAT IT READS IS OF BULK AT MOST 1048576: true; the input reads as it did. -/
def histFullUptoRow : OpenClaim := { program := "ytplhcfaonhkegaa", sum := "6e404feebcb8ca06db0083a179eba8e8fb660bd8f4b9cebb27231c88686107f7", func := "leapfrog/leapfroglaw22.HistFull", spec := "histFull", unfollowed := true, recurses := true, plainKeys := false, apart := false, narrowed := true }
def HistFullUptoSaid : Prop := histFullUptoRow.holds Try.pinned (OpenSpec.upto histFullSpec)

/-- 'leapfroglaw22.HistNobody', WHERE WHAT IT READS IS OF BULK AT MOST 1048576: true; the input reads as it did. -/
def histNobodyUptoRow : OpenClaim := { program := "ytplhcfaonhkegaa", sum := "6e404feebcb8ca06db0083a179eba8e8fb660bd8f4b9cebb27231c88686107f7", func := "leapfrog/leapfroglaw22.HistNobody", spec := "histNobody", unfollowed := true, recurses := true, plainKeys := false, apart := false, narrowed := true }
def HistNobodyUptoSaid : Prop := histNobodyUptoRow.holds Try.pinned (OpenSpec.upto histNobodySpec)

/-- 'leapfroglaw24.LinNone', WHERE WHAT IT READS IS OF BULK AT MOST 1048576: true; the input reads as it did. -/
def linNoneUptoRow : OpenClaim := { program := "ytplhcfaonhkegaa", sum := "6e404feebcb8ca06db0083a179eba8e8fb660bd8f4b9cebb27231c88686107f7", func := "leapfrog/leapfroglaw24.LinNone", spec := "linNone", inPlace := ["internal/abi.NoEscape", "slices.overlaps[leapfrog/api.Item]"], unfollowed := true, recurses := true, plainKeys := false, apart := false, narrowed := true }
def LinNoneUptoSaid : Prop := linNoneUptoRow.holds Try.pinned (OpenSpec.upto linNoneSpec)

/-- 'leapfroglaw24.LinShorter', WHERE WHAT IT READS IS OF BULK AT MOST 1048576: true; the input reads as it did. -/
def linShorterUptoRow : OpenClaim := { program := "ytplhcfaonhkegaa", sum := "6e404feebcb8ca06db0083a179eba8e8fb660bd8f4b9cebb27231c88686107f7", func := "leapfrog/leapfroglaw24.LinShorter", spec := "linShorter", inPlace := ["internal/abi.NoEscape", "slices.overlaps[leapfrog/api.Item]"], unfollowed := true, recurses := true, plainKeys := false, apart := false, narrowed := true }
def LinShorterUptoSaid : Prop := linShorterUptoRow.holds Try.pinned (OpenSpec.upto linShorterSpec)

/-- 'leapfroglaw24.LinFollows', WHERE WHAT IT READS IS OF BULK AT MOST 1048576: true; the input reads as it did. -/
def linFollowsUptoRow : OpenClaim := { program := "ytplhcfaonhkegaa", sum := "6e404feebcb8ca06db0083a179eba8e8fb660bd8f4b9cebb27231c88686107f7", func := "leapfrog/leapfroglaw24.LinFollows", spec := "linFollows", inPlace := ["slices.overlaps[leapfrog/api.Item]", "internal/abi.NoEscape"], unfollowed := true, recurses := true, plainKeys := false, apart := false, narrowed := true }
def LinFollowsUptoSaid : Prop := linFollowsUptoRow.holds Try.pinned (OpenSpec.upto linFollowsSpec)

/-- 'leapfroglaw24.LinTakes', WHERE WHAT IT READS IS OF BULK AT MOST 1048576: true; the input reads as it did. -/
def linTakesUptoRow : OpenClaim := { program := "ytplhcfaonhkegaa", sum := "6e404feebcb8ca06db0083a179eba8e8fb660bd8f4b9cebb27231c88686107f7", func := "leapfrog/leapfroglaw24.LinTakes", spec := "linTakes", inPlace := ["internal/abi.NoEscape", "slices.overlaps[leapfrog/api.Item]"], unfollowed := true, recurses := true, plainKeys := false, apart := false, narrowed := true }
def LinTakesUptoSaid : Prop := linTakesUptoRow.holds Try.pinned (OpenSpec.upto linTakesSpec)

/-- 'leapfroglaw24.LinParts', WHERE WHAT IT READS IS OF BULK AT MOST 1048576: true; the input reads as it did. -/
def linPartsUptoRow : OpenClaim := { program := "ytplhcfaonhkegaa", sum := "6e404feebcb8ca06db0083a179eba8e8fb660bd8f4b9cebb27231c88686107f7", func := "leapfrog/leapfroglaw24.LinParts", spec := "linParts", inPlace := ["internal/abi.NoEscape", "slices.overlaps[leapfrog/api.Item]"], unfollowed := true, recurses := true, plainKeys := false, apart := false, narrowed := true }
def LinPartsUptoSaid : Prop := linPartsUptoRow.holds Try.pinned (OpenSpec.upto linPartsSpec)

/-- 'leapfroglaw24.LinLocal', WHERE WHAT IT READS IS OF BULK AT MOST 1048576: true; the input reads as it did. -/
def linLocalUptoRow : OpenClaim := { program := "ytplhcfaonhkegaa", sum := "6e404feebcb8ca06db0083a179eba8e8fb660bd8f4b9cebb27231c88686107f7", func := "leapfrog/leapfroglaw24.LinLocal", spec := "linLocal", inPlace := ["internal/abi.NoEscape", "slices.overlaps[leapfrog/api.Item]"], unfollowed := true, recurses := true, plainKeys := false, apart := false, narrowed := true }
def LinLocalUptoSaid : Prop := linLocalUptoRow.holds Try.pinned (OpenSpec.upto linLocalSpec)

/-- 'leapfroglaw24.LinWas', WHERE WHAT IT READS IS OF BULK AT MOST 1048576: true; the input reads as it did. -/
def linWasUptoRow : OpenClaim := { program := "ytplhcfaonhkegaa", sum := "6e404feebcb8ca06db0083a179eba8e8fb660bd8f4b9cebb27231c88686107f7", func := "leapfrog/leapfroglaw24.LinWas", spec := "linWas", inPlace := ["internal/abi.NoEscape", "slices.overlaps[leapfrog/api.Item]"], unfollowed := true, recurses := true, plainKeys := false, apart := false, narrowed := true }
def LinWasUptoSaid : Prop := linWasUptoRow.holds Try.pinned (OpenSpec.upto linWasSpec)

end Rows
end Go.Proofs.Ytplhcfaonhkegaa
