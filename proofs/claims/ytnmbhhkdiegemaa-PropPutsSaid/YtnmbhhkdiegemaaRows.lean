/-
  NARROWER THAN 'FOR EVERY INPUT', by the rows' own cells (each row's printed sentence says how): PropOne: loops.
  DERIVED. THE GIVEN ROWS OF THIS SEAT. 6 by the template 'for every input the law returns true; each argument reads behind the call as it read before'; 0 by the template 'total and deterministic' (their statements: YtnmbhhkdiegemaaTotals.lean).
  GIVEN WITH THE SEED: the statements are not yours to turn. If you find one false, say at which input.
  Laid BY PROGRAM, IN A SANDBOX (cutbox-rows.mjs): the forced cells as the released guide's own fill.sh prints them over the translation 9abd0df6206467c6… (all of the seat's roots in one cut). By AI agents, Wed Nov 11 2026. No macro, syntax, notation, axiom, sorry.
-/
import Derived.Test.YtnmbhhkdiegemaaChecked
import GoSem.Claim
import GoSem.ClaimJoined
import GoSem.ClaimMapViews
import Derived.JoinedTies
import Derived.KernelRfl
namespace Go.Proofs.Ytnmbhhkdiegemaa
/- THE CELL 'sum', in the pinned program and in every row, IS THE sha256 OF THE DUMP (.gsa) THAT YtnmbhhkdiegemaaProg.lean LOADS. Nothing in Lean hashes anything: it is a label: what it is worth is what the hold of that sum in a sandbox is worth. -/
noncomputable def Try.pinned : Pinned := { name := "ytnmbhhkdiegemaa", sum := "9abd0df6206467c6d9c6c813f0c404c2447deefdec3a9e53712a634afc018b84", checked := Try.checked }
namespace Rows
def none {H : Type} : Left H := { results := [], args := [] }

/-- 'cardexlaw10.PageTells': WHATEVER THE INPUT: true; the input reads as it did. -/
def pageTellsSpec : ChangeSpec := { name := "pageTells", fn := fun _ => fun
  | [d1, d2, d3, d4] => { results := [.lit (.bool true)], args := [d1, d2, d3, d4] }
  | _ => none }
def pageTellsRow : OpenClaim := { program := "ytnmbhhkdiegemaa", sum := "9abd0df6206467c6d9c6c813f0c404c2447deefdec3a9e53712a634afc018b84", func := "cardex/cardexlaw10.PageTells", spec := "pageTells", unfollowed := true, recurses := true, apart := false }
def PageTellsSaid : Prop := pageTellsRow.holds Try.pinned (OpenSpec.ofChange pageTellsSpec)

/-- ITS FALSE NEIGHBOUR: 'it returns false'. Refute it at one input. -/
def pageTellsWrong : ChangeSpec := { name := "pageTells", fn := fun _ => fun
  | [d1, d2, d3, d4] => { results := [.lit (.bool false)], args := [d1, d2, d3, d4] }
  | _ => none }
def PageTellsWrongFalsely : Prop := pageTellsRow.holds Try.pinned (OpenSpec.ofChange pageTellsWrong)

/-- 'cardexlaw10.PageTags': WHATEVER THE INPUT: true; the input reads as it did. -/
def pageTagsSpec : ChangeSpec := { name := "pageTags", fn := fun _ => fun
  | [d] => { results := [.lit (.bool true)], args := [d] }
  | _ => none }
def pageTagsRow : OpenClaim := { program := "ytnmbhhkdiegemaa", sum := "9abd0df6206467c6d9c6c813f0c404c2447deefdec3a9e53712a634afc018b84", func := "cardex/cardexlaw10.PageTags", spec := "pageTags", unfollowed := true, recurses := true, apart := false }
def PageTagsSaid : Prop := pageTagsRow.holds Try.pinned (OpenSpec.ofChange pageTagsSpec)

/-- ITS FALSE NEIGHBOUR: 'it returns false'. Refute it at one input. -/
def pageTagsWrong : ChangeSpec := { name := "pageTags", fn := fun _ => fun
  | [d] => { results := [.lit (.bool false)], args := [d] }
  | _ => none }
def PageTagsWrongFalsely : Prop := pageTagsRow.holds Try.pinned (OpenSpec.ofChange pageTagsWrong)

/-- 'cardexlaw10.PageBack': WHATEVER THE INPUT: true; the input reads as it did. -/
def pageBackSpec : ChangeSpec := { name := "pageBack", fn := fun _ => fun
  | [d1, d2] => { results := [.lit (.bool true)], args := [d1, d2] }
  | _ => none }
def pageBackRow : OpenClaim := { program := "ytnmbhhkdiegemaa", sum := "9abd0df6206467c6d9c6c813f0c404c2447deefdec3a9e53712a634afc018b84", func := "cardex/cardexlaw10.PageBack", spec := "pageBack", unfollowed := true, recurses := true, apart := false }
def PageBackSaid : Prop := pageBackRow.holds Try.pinned (OpenSpec.ofChange pageBackSpec)

/-- ITS FALSE NEIGHBOUR: 'it returns false'. Refute it at one input. -/
def pageBackWrong : ChangeSpec := { name := "pageBack", fn := fun _ => fun
  | [d1, d2] => { results := [.lit (.bool false)], args := [d1, d2] }
  | _ => none }
def PageBackWrongFalsely : Prop := pageBackRow.holds Try.pinned (OpenSpec.ofChange pageBackWrong)

/-- 'cardexlaw14.PropPuts': WHATEVER THE INPUT: true; the input reads as it did. -/
def propPutsSpec : ChangeSpec := { name := "propPuts", fn := fun _ => fun
  | [d1, d2, d3] => { results := [.lit (.bool true)], args := [d1, d2, d3] }
  | _ => none }
def propPutsRow : OpenClaim := { program := "ytnmbhhkdiegemaa", sum := "9abd0df6206467c6d9c6c813f0c404c2447deefdec3a9e53712a634afc018b84", func := "cardex/cardexlaw14.PropPuts", spec := "propPuts", recurses := true, apart := false }
def PropPutsSaid : Prop := propPutsRow.holds Try.pinned (OpenSpec.ofChange propPutsSpec)

/-- ITS FALSE NEIGHBOUR: 'it returns false'. Refute it at one input. -/
def propPutsWrong : ChangeSpec := { name := "propPuts", fn := fun _ => fun
  | [d1, d2, d3] => { results := [.lit (.bool false)], args := [d1, d2, d3] }
  | _ => none }
def PropPutsWrongFalsely : Prop := propPutsRow.holds Try.pinned (OpenSpec.ofChange propPutsWrong)

/-- 'cardexlaw14.PropOne': WHATEVER THE INPUT: true; the input reads as it did. -/
def propOneSpec : ChangeSpec := { name := "propOne", fn := fun _ => fun
  | [d] => { results := [.lit (.bool true)], args := [d] }
  | _ => none }
def propOneRow : OpenClaim := { program := "ytnmbhhkdiegemaa", sum := "9abd0df6206467c6d9c6c813f0c404c2447deefdec3a9e53712a634afc018b84", func := "cardex/cardexlaw14.PropOne", spec := "propOne", recurses := true, loops := true, apart := false }
def PropOneSaid : Prop := propOneRow.holds Try.pinned (OpenSpec.ofChange propOneSpec)

/-- ITS FALSE NEIGHBOUR: 'it returns false'. Refute it at one input. -/
def propOneWrong : ChangeSpec := { name := "propOne", fn := fun _ => fun
  | [d] => { results := [.lit (.bool false)], args := [d] }
  | _ => none }
def PropOneWrongFalsely : Prop := propOneRow.holds Try.pinned (OpenSpec.ofChange propOneWrong)

/-- 'cardexlaw14.PropBack': WHATEVER THE INPUT: true; the input reads as it did. -/
def propBackSpec : ChangeSpec := { name := "propBack", fn := fun _ => fun
  | [d1, d2, d3, d4] => { results := [.lit (.bool true)], args := [d1, d2, d3, d4] }
  | _ => none }
def propBackRow : OpenClaim := { program := "ytnmbhhkdiegemaa", sum := "9abd0df6206467c6d9c6c813f0c404c2447deefdec3a9e53712a634afc018b84", func := "cardex/cardexlaw14.PropBack", spec := "propBack", apart := false }
def PropBackSaid : Prop := propBackRow.holds Try.pinned (OpenSpec.ofChange propBackSpec)

/-- ITS FALSE NEIGHBOUR: 'it returns false'. Refute it at one input. -/
def propBackWrong : ChangeSpec := { name := "propBack", fn := fun _ => fun
  | [d1, d2, d3, d4] => { results := [.lit (.bool false)], args := [d1, d2, d3, d4] }
  | _ => none }
def PropBackWrongFalsely : Prop := propBackRow.holds Try.pinned (OpenSpec.ofChange propBackWrong)

/- THE SECOND FORM. 'bulk': how many values and letters a reading holds, each counted each time it is reached (what is shared counts as often as it is met; a slice's spare places count too). A statement '..UptoSaid' is the law's where the arguments, and the package variables that the reading takes, are together of bulk at most 1048576: NARROWER than '..Said'. Prove '..Said' where nothing that the law and all that it calls make is longer than what came in: it says more and counts as full. Else prove '..UptoSaid'. A law counts once. -/
mutual
def uptoBulk {H : Type} : DataW H → Nat
  | .lit (.string bytes) => bytes.length + 1
  | .lit _ => 1
  | .nil => 1
  | .ptr d => uptoBulk d + 1
  | .slice elems spare => uptoBulkAll elems + uptoBulkAll spare + 1
  | .agg parts => uptoBulkAll parts + 1
  | .iface _ d => uptoBulk d + 1
  | .map entries => uptoBulkEntries entries + 1
  | .held _ => 1
def uptoBulkAll {H : Type} : List (DataW H) → Nat
  | [] => 0
  | d :: r => uptoBulk d + uptoBulkAll r
def uptoBulkEntries {H : Type} : List (Lit × DataW H) → Nat
  | [] => 0
  | x :: r => uptoBulkEntry x + uptoBulkEntries r
def uptoBulkEntry {H : Type} : Lit × DataW H → Nat
  | (.string bytes, d) => bytes.length + uptoBulk d + 1
  | (_, d) => uptoBulk d + 1
 end
def uptoSmall : (H : Type) → List (DataW H) → Bool := fun _ ds => decide (uptoBulkAll ds ≤ 1048576)
def OpenSpec.upto (s : _root_.Go.ChangeSpec) : _root_.Go.OpenSpec := { _root_.Go.OpenSpec.ofChange s with cond := some uptoSmall }

/-- 'cardexlaw10.PageTells', WHERE WHAT IT READS IS OF BULK AT MOST 1048576: true; the input reads as it did. -/
def pageTellsUptoRow : OpenClaim := { program := "ytnmbhhkdiegemaa", sum := "9abd0df6206467c6d9c6c813f0c404c2447deefdec3a9e53712a634afc018b84", func := "cardex/cardexlaw10.PageTells", spec := "pageTells", unfollowed := true, recurses := true, apart := false, narrowed := true }
def PageTellsUptoSaid : Prop := pageTellsUptoRow.holds Try.pinned (OpenSpec.upto pageTellsSpec)

/-- 'cardexlaw10.PageTags', WHERE WHAT IT READS IS OF BULK AT MOST 1048576: true; the input reads as it did. -/
def pageTagsUptoRow : OpenClaim := { program := "ytnmbhhkdiegemaa", sum := "9abd0df6206467c6d9c6c813f0c404c2447deefdec3a9e53712a634afc018b84", func := "cardex/cardexlaw10.PageTags", spec := "pageTags", unfollowed := true, recurses := true, apart := false, narrowed := true }
def PageTagsUptoSaid : Prop := pageTagsUptoRow.holds Try.pinned (OpenSpec.upto pageTagsSpec)

/-- 'cardexlaw10.PageBack', WHERE WHAT IT READS IS OF BULK AT MOST 1048576: true; the input reads as it did. -/
def pageBackUptoRow : OpenClaim := { program := "ytnmbhhkdiegemaa", sum := "9abd0df6206467c6d9c6c813f0c404c2447deefdec3a9e53712a634afc018b84", func := "cardex/cardexlaw10.PageBack", spec := "pageBack", unfollowed := true, recurses := true, apart := false, narrowed := true }
def PageBackUptoSaid : Prop := pageBackUptoRow.holds Try.pinned (OpenSpec.upto pageBackSpec)

/-- 'cardexlaw14.PropPuts', WHERE WHAT IT READS IS OF BULK AT MOST 1048576: true; the input reads as it did. -/
def propPutsUptoRow : OpenClaim := { program := "ytnmbhhkdiegemaa", sum := "9abd0df6206467c6d9c6c813f0c404c2447deefdec3a9e53712a634afc018b84", func := "cardex/cardexlaw14.PropPuts", spec := "propPuts", recurses := true, apart := false, narrowed := true }
def PropPutsUptoSaid : Prop := propPutsUptoRow.holds Try.pinned (OpenSpec.upto propPutsSpec)

/-- 'cardexlaw14.PropOne', WHERE WHAT IT READS IS OF BULK AT MOST 1048576: true; the input reads as it did. -/
def propOneUptoRow : OpenClaim := { program := "ytnmbhhkdiegemaa", sum := "9abd0df6206467c6d9c6c813f0c404c2447deefdec3a9e53712a634afc018b84", func := "cardex/cardexlaw14.PropOne", spec := "propOne", recurses := true, loops := true, apart := false, narrowed := true }
def PropOneUptoSaid : Prop := propOneUptoRow.holds Try.pinned (OpenSpec.upto propOneSpec)

/-- 'cardexlaw14.PropBack', WHERE WHAT IT READS IS OF BULK AT MOST 1048576: true; the input reads as it did. -/
def propBackUptoRow : OpenClaim := { program := "ytnmbhhkdiegemaa", sum := "9abd0df6206467c6d9c6c813f0c404c2447deefdec3a9e53712a634afc018b84", func := "cardex/cardexlaw14.PropBack", spec := "propBack", apart := false, narrowed := true }
def PropBackUptoSaid : Prop := propBackUptoRow.holds Try.pinned (OpenSpec.upto propBackSpec)

end Rows
end Go.Proofs.Ytnmbhhkdiegemaa
