/-
  No cell of these rows narrows 'for every input' (looked for: loops, veiled, ifaces, maps, wideKeys, modest, calm, conditions, laid).
  DERIVED. THE GIVEN ROWS OF THIS SEAT. 9 by the template 'for every input the law returns true; each argument reads behind the call as it read before'; 0 by the template 'total and deterministic' (their statements: YtjcpnfmbdbeinaaTotals.lean).
  GIVEN WITH THE SEED: the statements are not yours to turn. If you find one false, say at which input.
  Laid BY PROGRAM, IN A SANDBOX (cutbox-rows.mjs): the forced cells as the released guide's own fill.sh prints them over the translation dbc86ca85ca59c4d… (all of the seat's roots in one cut). By AI agents, Wed Nov 11 2026. No macro, syntax, notation, axiom, sorry.
-/
import Derived.Test.YtjcpnfmbdbeinaaChecked
import GoSem.Claim
import GoSem.ClaimJoined
import GoSem.ClaimMapViews
import Derived.JoinedTies
import Derived.KernelRfl
namespace Go.Proofs.Ytjcpnfmbdbeinaa
/- THE CELL 'sum', in the pinned program and in every row, IS THE sha256 OF THE DUMP (.gsa) THAT YtjcpnfmbdbeinaaProg.lean LOADS. Nothing in Lean hashes anything: it is a label: what it is worth is what the hold of that sum in a sandbox is worth. -/
noncomputable def Try.pinned : Pinned := { name := "ytjcpnfmbdbeinaa", sum := "dbc86ca85ca59c4dab8ee0d29bde3cb1c37a135067188dd795fa97969840ca77", checked := Try.checked }
namespace Rows
def none {H : Type} : Left H := { results := [], args := [] }

/-- 'cardexlaw02.UtfRunes': WHATEVER THE INPUT: true; the input reads as it did. -/
def utfRunesSpec : ChangeSpec := { name := "utfRunes", fn := fun _ => fun
  | [d1, d2] => { results := [.lit (.bool true)], args := [d1, d2] }
  | _ => none }
def utfRunesRow : OpenClaim := { program := "ytjcpnfmbdbeinaa", sum := "dbc86ca85ca59c4dab8ee0d29bde3cb1c37a135067188dd795fa97969840ca77", func := "cardex/cardexlaw02.UtfRunes", spec := "utfRunes", apart := false }
def UtfRunesSaid : Prop := utfRunesRow.holds Try.pinned (OpenSpec.ofChange utfRunesSpec)

/-- ITS FALSE NEIGHBOUR: 'it returns false'. Refute it at one input. -/
def utfRunesWrong : ChangeSpec := { name := "utfRunes", fn := fun _ => fun
  | [d1, d2] => { results := [.lit (.bool false)], args := [d1, d2] }
  | _ => none }
def UtfRunesWrongFalsely : Prop := utfRunesRow.holds Try.pinned (OpenSpec.ofChange utfRunesWrong)

/-- 'cardexlaw02.UtfBehind': WHATEVER THE INPUT: true; the input reads as it did. -/
def utfBehindSpec : ChangeSpec := { name := "utfBehind", fn := fun _ => fun
  | [d1, d2] => { results := [.lit (.bool true)], args := [d1, d2] }
  | _ => none }
def utfBehindRow : OpenClaim := { program := "ytjcpnfmbdbeinaa", sum := "dbc86ca85ca59c4dab8ee0d29bde3cb1c37a135067188dd795fa97969840ca77", func := "cardex/cardexlaw02.UtfBehind", spec := "utfBehind", apart := false }
def UtfBehindSaid : Prop := utfBehindRow.holds Try.pinned (OpenSpec.ofChange utfBehindSpec)

/-- ITS FALSE NEIGHBOUR: 'it returns false'. Refute it at one input. -/
def utfBehindWrong : ChangeSpec := { name := "utfBehind", fn := fun _ => fun
  | [d1, d2] => { results := [.lit (.bool false)], args := [d1, d2] }
  | _ => none }
def UtfBehindWrongFalsely : Prop := utfBehindRow.holds Try.pinned (OpenSpec.ofChange utfBehindWrong)

/-- 'cardexlaw02.UtfTells': WHATEVER THE INPUT: true; the input reads as it did. -/
def utfTellsSpec : ChangeSpec := { name := "utfTells", fn := fun _ => fun
  | [d1, d2] => { results := [.lit (.bool true)], args := [d1, d2] }
  | _ => none }
def utfTellsRow : OpenClaim := { program := "ytjcpnfmbdbeinaa", sum := "dbc86ca85ca59c4dab8ee0d29bde3cb1c37a135067188dd795fa97969840ca77", func := "cardex/cardexlaw02.UtfTells", spec := "utfTells", apart := false }
def UtfTellsSaid : Prop := utfTellsRow.holds Try.pinned (OpenSpec.ofChange utfTellsSpec)

/-- ITS FALSE NEIGHBOUR: 'it returns false'. Refute it at one input. -/
def utfTellsWrong : ChangeSpec := { name := "utfTells", fn := fun _ => fun
  | [d1, d2] => { results := [.lit (.bool false)], args := [d1, d2] }
  | _ => none }
def UtfTellsWrongFalsely : Prop := utfTellsRow.holds Try.pinned (OpenSpec.ofChange utfTellsWrong)

/-- 'cardexlaw02.UtfCuts': WHATEVER THE INPUT: true; the input reads as it did. -/
def utfCutsSpec : ChangeSpec := { name := "utfCuts", fn := fun _ => fun
  | [d1, d2] => { results := [.lit (.bool true)], args := [d1, d2] }
  | _ => none }
def utfCutsRow : OpenClaim := { program := "ytjcpnfmbdbeinaa", sum := "dbc86ca85ca59c4dab8ee0d29bde3cb1c37a135067188dd795fa97969840ca77", func := "cardex/cardexlaw02.UtfCuts", spec := "utfCuts", apart := false }
def UtfCutsSaid : Prop := utfCutsRow.holds Try.pinned (OpenSpec.ofChange utfCutsSpec)

/-- ITS FALSE NEIGHBOUR: 'it returns false'. Refute it at one input. -/
def utfCutsWrong : ChangeSpec := { name := "utfCuts", fn := fun _ => fun
  | [d1, d2] => { results := [.lit (.bool false)], args := [d1, d2] }
  | _ => none }
def UtfCutsWrongFalsely : Prop := utfCutsRow.holds Try.pinned (OpenSpec.ofChange utfCutsWrong)

/-- 'cardexlaw11.TokenPuts': WHATEVER THE INPUT: true; the input reads as it did. -/
def tokenPutsSpec : ChangeSpec := { name := "tokenPuts", fn := fun _ => fun
  | [d1, d2] => { results := [.lit (.bool true)], args := [d1, d2] }
  | _ => none }
def tokenPutsRow : OpenClaim := { program := "ytjcpnfmbdbeinaa", sum := "dbc86ca85ca59c4dab8ee0d29bde3cb1c37a135067188dd795fa97969840ca77", func := "cardex/cardexlaw11.TokenPuts", spec := "tokenPuts", inPlace := ["internal/bytealg.IndexByte"], unfollowed := true, recurses := true, apart := false }
def TokenPutsSaid : Prop := tokenPutsRow.holds Try.pinned (OpenSpec.ofChange tokenPutsSpec)

/-- ITS FALSE NEIGHBOUR: 'it returns false'. Refute it at one input. -/
def tokenPutsWrong : ChangeSpec := { name := "tokenPuts", fn := fun _ => fun
  | [d1, d2] => { results := [.lit (.bool false)], args := [d1, d2] }
  | _ => none }
def TokenPutsWrongFalsely : Prop := tokenPutsRow.holds Try.pinned (OpenSpec.ofChange tokenPutsWrong)

/-- 'cardexlaw11.TokenGets': WHATEVER THE INPUT: true; the input reads as it did. -/
def tokenGetsSpec : ChangeSpec := { name := "tokenGets", fn := fun _ => fun
  | [d] => { results := [.lit (.bool true)], args := [d] }
  | _ => none }
def tokenGetsRow : OpenClaim := { program := "ytjcpnfmbdbeinaa", sum := "dbc86ca85ca59c4dab8ee0d29bde3cb1c37a135067188dd795fa97969840ca77", func := "cardex/cardexlaw11.TokenGets", spec := "tokenGets", inPlace := ["internal/bytealg.IndexByte"], unfollowed := true, recurses := true, apart := false }
def TokenGetsSaid : Prop := tokenGetsRow.holds Try.pinned (OpenSpec.ofChange tokenGetsSpec)

/-- ITS FALSE NEIGHBOUR: 'it returns false'. Refute it at one input. -/
def tokenGetsWrong : ChangeSpec := { name := "tokenGets", fn := fun _ => fun
  | [d] => { results := [.lit (.bool false)], args := [d] }
  | _ => none }
def TokenGetsWrongFalsely : Prop := tokenGetsRow.holds Try.pinned (OpenSpec.ofChange tokenGetsWrong)

/-- 'cardexlaw11.TokenBack': WHATEVER THE INPUT: true; the input reads as it did. -/
def tokenBackSpec : ChangeSpec := { name := "tokenBack", fn := fun _ => fun
  | [d] => { results := [.lit (.bool true)], args := [d] }
  | _ => none }
def tokenBackRow : OpenClaim := { program := "ytjcpnfmbdbeinaa", sum := "dbc86ca85ca59c4dab8ee0d29bde3cb1c37a135067188dd795fa97969840ca77", func := "cardex/cardexlaw11.TokenBack", spec := "tokenBack", inPlace := ["internal/bytealg.IndexByte"], unfollowed := true, recurses := true, apart := false }
def TokenBackSaid : Prop := tokenBackRow.holds Try.pinned (OpenSpec.ofChange tokenBackSpec)

/-- ITS FALSE NEIGHBOUR: 'it returns false'. Refute it at one input. -/
def tokenBackWrong : ChangeSpec := { name := "tokenBack", fn := fun _ => fun
  | [d] => { results := [.lit (.bool false)], args := [d] }
  | _ => none }
def TokenBackWrongFalsely : Prop := tokenBackRow.holds Try.pinned (OpenSpec.ofChange tokenBackWrong)

/-- 'cardexlaw11.TokenOne': WHATEVER THE INPUT: true; the input reads as it did. -/
def tokenOneSpec : ChangeSpec := { name := "tokenOne", fn := fun _ => fun
  | [d] => { results := [.lit (.bool true)], args := [d] }
  | _ => none }
def tokenOneRow : OpenClaim := { program := "ytjcpnfmbdbeinaa", sum := "dbc86ca85ca59c4dab8ee0d29bde3cb1c37a135067188dd795fa97969840ca77", func := "cardex/cardexlaw11.TokenOne", spec := "tokenOne", inPlace := ["internal/bytealg.IndexByte"], unfollowed := true, recurses := true, apart := false }
def TokenOneSaid : Prop := tokenOneRow.holds Try.pinned (OpenSpec.ofChange tokenOneSpec)

/-- ITS FALSE NEIGHBOUR: 'it returns false'. Refute it at one input. -/
def tokenOneWrong : ChangeSpec := { name := "tokenOne", fn := fun _ => fun
  | [d] => { results := [.lit (.bool false)], args := [d] }
  | _ => none }
def TokenOneWrongFalsely : Prop := tokenOneRow.holds Try.pinned (OpenSpec.ofChange tokenOneWrong)

/-- 'cardexlaw11.TokenCut': WHATEVER THE INPUT: true; the input reads as it did. -/
def tokenCutSpec : ChangeSpec := { name := "tokenCut", fn := fun _ => fun
  | [d1, d2] => { results := [.lit (.bool true)], args := [d1, d2] }
  | _ => none }
def tokenCutRow : OpenClaim := { program := "ytjcpnfmbdbeinaa", sum := "dbc86ca85ca59c4dab8ee0d29bde3cb1c37a135067188dd795fa97969840ca77", func := "cardex/cardexlaw11.TokenCut", spec := "tokenCut", inPlace := ["internal/bytealg.IndexByte"], unfollowed := true, recurses := true, apart := false }
def TokenCutSaid : Prop := tokenCutRow.holds Try.pinned (OpenSpec.ofChange tokenCutSpec)

/-- ITS FALSE NEIGHBOUR: 'it returns false'. Refute it at one input. -/
def tokenCutWrong : ChangeSpec := { name := "tokenCut", fn := fun _ => fun
  | [d1, d2] => { results := [.lit (.bool false)], args := [d1, d2] }
  | _ => none }
def TokenCutWrongFalsely : Prop := tokenCutRow.holds Try.pinned (OpenSpec.ofChange tokenCutWrong)

/- THE SECOND FORM. 'bulk': how many values and letters a reading holds, each counted each time it is reached (what is shared counts as often as it is met; a slice's spare places count too). A statement '..UptoSaid' is the law's where the arguments, and the package variables that the reading takes, are together of bulk at most 1048576: NARROWER than '..Said'. Prove '..Said' where nothing that the law and all that it calls make is longer than what came in: it says more and counts as full. Else prove '..UptoSaid'. A law counts once. -/
mutual
def uptoBulk {H : Type} : DataW H → Nat
  | .lit (.string bytes) => bytes.length + 1
  | .lit _ => 1
  | .nil => 1
  | .ptr d => uptoBulk d + 1
  | .slice elems spare => uptoBulkAll elems + uptoBulkAll spare + 1
  | .agg parts => uptoBulkAll parts + 1
  | .iface _ d => uptoBulk d + 1
  | .map entries => uptoBulkEntries entries + 1
  | .held _ => 1
def uptoBulkAll {H : Type} : List (DataW H) → Nat
  | [] => 0
  | d :: r => uptoBulk d + uptoBulkAll r
def uptoBulkEntries {H : Type} : List (Lit × DataW H) → Nat
  | [] => 0
  | x :: r => uptoBulkEntry x + uptoBulkEntries r
def uptoBulkEntry {H : Type} : Lit × DataW H → Nat
  | (.string bytes, d) => bytes.length + uptoBulk d + 1
  | (_, d) => uptoBulk d + 1
 end
def uptoSmall : (H : Type) → List (DataW H) → Bool := fun _ ds => decide (uptoBulkAll ds ≤ 1048576)
def OpenSpec.upto (s : _root_.Go.ChangeSpec) : _root_.Go.OpenSpec := { _root_.Go.OpenSpec.ofChange s with cond := some uptoSmall }

/-- 'cardexlaw02.UtfRunes', WHERE WHAT IT READS IS OF BULK AT MOST 1048576: true; the input reads as it did. -/
def utfRunesUptoRow : OpenClaim := { program := "ytjcpnfmbdbeinaa", sum := "dbc86ca85ca59c4dab8ee0d29bde3cb1c37a135067188dd795fa97969840ca77", func := "cardex/cardexlaw02.UtfRunes", spec := "utfRunes", apart := false, narrowed := true }
def UtfRunesUptoSaid : Prop := utfRunesUptoRow.holds Try.pinned (OpenSpec.upto utfRunesSpec)

/-- 'cardexlaw02.UtfBehind', WHERE WHAT IT READS IS OF BULK AT MOST 1048576: true; the input reads as it did. -/
def utfBehindUptoRow : OpenClaim := { program := "ytjcpnfmbdbeinaa", sum := "dbc86ca85ca59c4dab8ee0d29bde3cb1c37a135067188dd795fa97969840ca77", func := "cardex/cardexlaw02.UtfBehind", spec := "utfBehind", apart := false, narrowed := true }
def UtfBehindUptoSaid : Prop := utfBehindUptoRow.holds Try.pinned (OpenSpec.upto utfBehindSpec)

/-- 'cardexlaw02.UtfTells', WHERE WHAT IT READS IS OF BULK AT MOST 1048576: true; the input reads as it did. -/
def utfTellsUptoRow : OpenClaim := { program := "ytjcpnfmbdbeinaa", sum := "dbc86ca85ca59c4dab8ee0d29bde3cb1c37a135067188dd795fa97969840ca77", func := "cardex/cardexlaw02.UtfTells", spec := "utfTells", apart := false, narrowed := true }
def UtfTellsUptoSaid : Prop := utfTellsUptoRow.holds Try.pinned (OpenSpec.upto utfTellsSpec)

/-- 'cardexlaw02.UtfCuts', WHERE WHAT IT READS IS OF BULK AT MOST 1048576: true; the input reads as it did. -/
def utfCutsUptoRow : OpenClaim := { program := "ytjcpnfmbdbeinaa", sum := "dbc86ca85ca59c4dab8ee0d29bde3cb1c37a135067188dd795fa97969840ca77", func := "cardex/cardexlaw02.UtfCuts", spec := "utfCuts", apart := false, narrowed := true }
def UtfCutsUptoSaid : Prop := utfCutsUptoRow.holds Try.pinned (OpenSpec.upto utfCutsSpec)

/-- 'cardexlaw11.TokenPuts', WHERE WHAT IT READS IS OF BULK AT MOST 1048576: true; the input reads as it did. -/
def tokenPutsUptoRow : OpenClaim := { program := "ytjcpnfmbdbeinaa", sum := "dbc86ca85ca59c4dab8ee0d29bde3cb1c37a135067188dd795fa97969840ca77", func := "cardex/cardexlaw11.TokenPuts", spec := "tokenPuts", inPlace := ["internal/bytealg.IndexByte"], unfollowed := true, recurses := true, apart := false, narrowed := true }
def TokenPutsUptoSaid : Prop := tokenPutsUptoRow.holds Try.pinned (OpenSpec.upto tokenPutsSpec)

/-- 'cardexlaw11.TokenGets', WHERE WHAT IT READS IS OF BULK AT MOST 1048576: true; the input reads as it did. -/
def tokenGetsUptoRow : OpenClaim := { program := "ytjcpnfmbdbeinaa", sum := "dbc86ca85ca59c4dab8ee0d29bde3cb1c37a135067188dd795fa97969840ca77", func := "cardex/cardexlaw11.TokenGets", spec := "tokenGets", inPlace := ["internal/bytealg.IndexByte"], unfollowed := true, recurses := true, apart := false, narrowed := true }
def TokenGetsUptoSaid : Prop := tokenGetsUptoRow.holds Try.pinned (OpenSpec.upto tokenGetsSpec)

/-- 'cardexlaw11.TokenBack', WHERE WHAT IT READS IS OF BULK AT MOST 1048576: true; the input reads as it did. -/
def tokenBackUptoRow : OpenClaim := { program := "ytjcpnfmbdbeinaa", sum := "dbc86ca85ca59c4dab8ee0d29bde3cb1c37a135067188dd795fa97969840ca77", func := "cardex/cardexlaw11.TokenBack", spec := "tokenBack", inPlace := ["internal/bytealg.IndexByte"], unfollowed := true, recurses := true, apart := false, narrowed := true }
def TokenBackUptoSaid : Prop := tokenBackUptoRow.holds Try.pinned (OpenSpec.upto tokenBackSpec)

/-- 'cardexlaw11.TokenOne', WHERE WHAT IT READS IS OF BULK AT MOST 1048576: true; the input reads as it did. -/
def tokenOneUptoRow : OpenClaim := { program := "ytjcpnfmbdbeinaa", sum := "dbc86ca85ca59c4dab8ee0d29bde3cb1c37a135067188dd795fa97969840ca77", func := "cardex/cardexlaw11.TokenOne", spec := "tokenOne", inPlace := ["internal/bytealg.IndexByte"], unfollowed := true, recurses := true, apart := false, narrowed := true }
def TokenOneUptoSaid : Prop := tokenOneUptoRow.holds Try.pinned (OpenSpec.upto tokenOneSpec)

/-- 'cardexlaw11.TokenCut', WHERE WHAT IT READS IS OF BULK AT MOST 1048576: true; the input reads as it did. -/
def tokenCutUptoRow : OpenClaim := { program := "ytjcpnfmbdbeinaa", sum := "dbc86ca85ca59c4dab8ee0d29bde3cb1c37a135067188dd795fa97969840ca77", func := "cardex/cardexlaw11.TokenCut", spec := "tokenCut", inPlace := ["internal/bytealg.IndexByte"], unfollowed := true, recurses := true, apart := false, narrowed := true }
def TokenCutUptoSaid : Prop := tokenCutUptoRow.holds Try.pinned (OpenSpec.upto tokenCutSpec)

end Rows
end Go.Proofs.Ytjcpnfmbdbeinaa
