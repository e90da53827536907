/-
  No cell of these rows narrows 'for every input' (looked for: loops, veiled, ifaces, maps, wideKeys, modest, calm, conditions, laid).
  DERIVED. THE GIVEN ROWS OF THIS SEAT. 4 by the template 'for every input the law returns true; each argument reads behind the call as it read before'; 0 by the template 'total and deterministic' (their statements: YtjcfjgcnkbbgmaaTotals.lean).
  GIVEN WITH THE SEED: the statements are not yours to turn. If you find one false, say at which input.
  Laid BY PROGRAM, IN A SANDBOX (cutbox-rows.mjs): the forced cells as the released guide's own fill.sh prints them over the translation 7454c1b4b3ae1bc9… (all of the seat's roots in one cut). By AI agents, Wed Nov 11 2026. No macro, syntax, notation, axiom, sorry.
-/
import Derived.Test.YtjcfjgcnkbbgmaaChecked
import GoSem.Claim
import GoSem.ClaimJoined
import GoSem.ClaimMapViews
import Derived.JoinedTies
import Derived.KernelRfl
namespace Go.Proofs.Ytjcfjgcnkbbgmaa
/- THE CELL 'sum', in the pinned program and in every row, IS THE sha256 OF THE DUMP (.gsa) THAT YtjcfjgcnkbbgmaaProg.lean LOADS. Nothing in Lean hashes anything: it is a label: what it is worth is what the hold of that sum in a sandbox is worth. -/
noncomputable def Try.pinned : Pinned := { name := "ytjcfjgcnkbbgmaa", sum := "7454c1b4b3ae1bc93bbba2ef510e17569832c1fb91151ba78fa187695e9400d3", checked := Try.checked }
namespace Rows
def none {H : Type} : Left H := { results := [], args := [] }

/-- 'incipitlaw21.TagsRead': WHATEVER THE INPUT: true; the input reads as it did. -/
def tagsReadSpec : ChangeSpec := { name := "tagsRead", fn := fun _ => fun
  | [d] => { results := [.lit (.bool true)], args := [d] }
  | _ => none }
def tagsReadRow : OpenClaim := { program := "ytjcfjgcnkbbgmaa", sum := "7454c1b4b3ae1bc93bbba2ef510e17569832c1fb91151ba78fa187695e9400d3", func := "incipit/incipitlaw21.TagsRead", spec := "tagsRead", inPlace := ["internal/bytealg.IndexByteString", "internal/bytealg.IndexString", "internal/abi.NoEscape"], unfollowed := true, recurses := true, named := ["internal/bytealg.MaxLen"], apart := false }
def TagsReadSaid : Prop := tagsReadRow.holds Try.pinned (OpenSpec.ofChange tagsReadSpec)

/-- ITS FALSE NEIGHBOUR: 'it returns false'. Refute it at one input. -/
def tagsReadWrong : ChangeSpec := { name := "tagsRead", fn := fun _ => fun
  | [d] => { results := [.lit (.bool false)], args := [d] }
  | _ => none }
def TagsReadWrongFalsely : Prop := tagsReadRow.holds Try.pinned (OpenSpec.ofChange tagsReadWrong)

/-- 'incipitlaw21.TagsJoin': WHATEVER THE INPUT: true; the input reads as it did. -/
def tagsJoinSpec : ChangeSpec := { name := "tagsJoin", fn := fun _ => fun
  | [d1, d2, d3] => { results := [.lit (.bool true)], args := [d1, d2, d3] }
  | _ => none }
def tagsJoinRow : OpenClaim := { program := "ytjcfjgcnkbbgmaa", sum := "7454c1b4b3ae1bc93bbba2ef510e17569832c1fb91151ba78fa187695e9400d3", func := "incipit/incipitlaw21.TagsJoin", spec := "tagsJoin", inPlace := ["internal/bytealg.IndexByteString", "internal/bytealg.IndexString", "internal/abi.NoEscape"], unfollowed := true, recurses := true, named := ["internal/bytealg.MaxLen"], apart := false }
def TagsJoinSaid : Prop := tagsJoinRow.holds Try.pinned (OpenSpec.ofChange tagsJoinSpec)

/-- ITS FALSE NEIGHBOUR: 'it returns false'. Refute it at one input. -/
def tagsJoinWrong : ChangeSpec := { name := "tagsJoin", fn := fun _ => fun
  | [d1, d2, d3] => { results := [.lit (.bool false)], args := [d1, d2, d3] }
  | _ => none }
def TagsJoinWrongFalsely : Prop := tagsJoinRow.holds Try.pinned (OpenSpec.ofChange tagsJoinWrong)

/-- 'incipitlaw21.TagsPlain': WHATEVER THE INPUT: true; the input reads as it did. -/
def tagsPlainSpec : ChangeSpec := { name := "tagsPlain", fn := fun _ => fun
  | [d] => { results := [.lit (.bool true)], args := [d] }
  | _ => none }
def tagsPlainRow : OpenClaim := { program := "ytjcfjgcnkbbgmaa", sum := "7454c1b4b3ae1bc93bbba2ef510e17569832c1fb91151ba78fa187695e9400d3", func := "incipit/incipitlaw21.TagsPlain", spec := "tagsPlain", inPlace := ["internal/bytealg.IndexByteString", "internal/bytealg.IndexString", "internal/abi.NoEscape"], unfollowed := true, recurses := true, named := ["internal/bytealg.MaxLen"], apart := false }
def TagsPlainSaid : Prop := tagsPlainRow.holds Try.pinned (OpenSpec.ofChange tagsPlainSpec)

/-- ITS FALSE NEIGHBOUR: 'it returns false'. Refute it at one input. -/
def tagsPlainWrong : ChangeSpec := { name := "tagsPlain", fn := fun _ => fun
  | [d] => { results := [.lit (.bool false)], args := [d] }
  | _ => none }
def TagsPlainWrongFalsely : Prop := tagsPlainRow.holds Try.pinned (OpenSpec.ofChange tagsPlainWrong)

/-- 'incipitlaw21.TagsIds': WHATEVER THE INPUT: true; the input reads as it did. -/
def tagsIdsSpec : ChangeSpec := { name := "tagsIds", fn := fun _ => fun
  | [d1, d2, d3] => { results := [.lit (.bool true)], args := [d1, d2, d3] }
  | _ => none }
def tagsIdsRow : OpenClaim := { program := "ytjcfjgcnkbbgmaa", sum := "7454c1b4b3ae1bc93bbba2ef510e17569832c1fb91151ba78fa187695e9400d3", func := "incipit/incipitlaw21.TagsIds", spec := "tagsIds", inPlace := ["internal/bytealg.IndexByteString", "internal/bytealg.IndexString", "internal/abi.NoEscape"], unfollowed := true, recurses := true, named := ["internal/bytealg.MaxLen"], apart := false }
def TagsIdsSaid : Prop := tagsIdsRow.holds Try.pinned (OpenSpec.ofChange tagsIdsSpec)

/-- ITS FALSE NEIGHBOUR: 'it returns false'. Refute it at one input. -/
def tagsIdsWrong : ChangeSpec := { name := "tagsIds", fn := fun _ => fun
  | [d1, d2, d3] => { results := [.lit (.bool false)], args := [d1, d2, d3] }
  | _ => none }
def TagsIdsWrongFalsely : Prop := tagsIdsRow.holds Try.pinned (OpenSpec.ofChange tagsIdsWrong)

/- THE SECOND FORM. 'bulk': how many values and letters a reading holds, each counted each time it is reached (what is shared counts as often as it is met; a slice's spare places count too). A statement '..UptoSaid' is the law's where the arguments, and the package variables that the reading takes, are together of bulk at most 1048576: NARROWER than '..Said'. Prove '..Said' where nothing that the law and all that it calls make is longer than what came in: it says more and counts as full. Else prove '..UptoSaid'. A law counts once. -/
mutual
def uptoBulk {H : Type} : DataW H → Nat
  | .lit (.string bytes) => bytes.length + 1
  | .lit _ => 1
  | .nil => 1
  | .ptr d => uptoBulk d + 1
  | .slice elems spare => uptoBulkAll elems + uptoBulkAll spare + 1
  | .agg parts => uptoBulkAll parts + 1
  | .iface _ d => uptoBulk d + 1
  | .map entries => uptoBulkEntries entries + 1
  | .held _ => 1
def uptoBulkAll {H : Type} : List (DataW H) → Nat
  | [] => 0
  | d :: r => uptoBulk d + uptoBulkAll r
def uptoBulkEntries {H : Type} : List (Lit × DataW H) → Nat
  | [] => 0
  | x :: r => uptoBulkEntry x + uptoBulkEntries r
def uptoBulkEntry {H : Type} : Lit × DataW H → Nat
  | (.string bytes, d) => bytes.length + uptoBulk d + 1
  | (_, d) => uptoBulk d + 1
 end
def uptoSmall : (H : Type) → List (DataW H) → Bool := fun _ ds => decide (uptoBulkAll ds ≤ 1048576)
def OpenSpec.upto (s : _root_.Go.ChangeSpec) : _root_.Go.OpenSpec := { _root_.Go.OpenSpec.ofChange s with cond := some uptoSmall }

/-- 'incipitlaw21.TagsRead', WHERE WHAT IT READS IS OF BULK AT MOST 1048576: true; the input reads as it did. -/
def tagsReadUptoRow : OpenClaim := { program := "ytjcfjgcnkbbgmaa", sum := "7454c1b4b3ae1bc93bbba2ef510e17569832c1fb91151ba78fa187695e9400d3", func := "incipit/incipitlaw21.TagsRead", spec := "tagsRead", inPlace := ["internal/bytealg.IndexByteString", "internal/bytealg.IndexString", "internal/abi.NoEscape"], unfollowed := true, recurses := true, named := ["internal/bytealg.MaxLen"], apart := false, narrowed := true }
def TagsReadUptoSaid : Prop := tagsReadUptoRow.holds Try.pinned (OpenSpec.upto tagsReadSpec)

/-- 'incipitlaw21.TagsJoin', WHERE WHAT IT READS IS OF BULK AT MOST 1048576: true; the input reads as it did. -/
def tagsJoinUptoRow : OpenClaim := { program := "ytjcfjgcnkbbgmaa", sum := "7454c1b4b3ae1bc93bbba2ef510e17569832c1fb91151ba78fa187695e9400d3", func := "incipit/incipitlaw21.TagsJoin", spec := "tagsJoin", inPlace := ["internal/bytealg.IndexByteString", "internal/bytealg.IndexString", "internal/abi.NoEscape"], unfollowed := true, recurses := true, named := ["internal/bytealg.MaxLen"], apart := false, narrowed := true }
def TagsJoinUptoSaid : Prop := tagsJoinUptoRow.holds Try.pinned (OpenSpec.upto tagsJoinSpec)

/-- 'incipitlaw21.TagsPlain', WHERE WHAT IT READS IS OF BULK AT MOST 1048576: true; the input reads as it did. -/
def tagsPlainUptoRow : OpenClaim := { program := "ytjcfjgcnkbbgmaa", sum := "7454c1b4b3ae1bc93bbba2ef510e17569832c1fb91151ba78fa187695e9400d3", func := "incipit/incipitlaw21.TagsPlain", spec := "tagsPlain", inPlace := ["internal/bytealg.IndexByteString", "internal/bytealg.IndexString", "internal/abi.NoEscape"], unfollowed := true, recurses := true, named := ["internal/bytealg.MaxLen"], apart := false, narrowed := true }
def TagsPlainUptoSaid : Prop := tagsPlainUptoRow.holds Try.pinned (OpenSpec.upto tagsPlainSpec)

/-- 'incipitlaw21.TagsIds', WHERE WHAT IT READS IS OF BULK AT MOST 1048576: true; the input reads as it did. -/
def tagsIdsUptoRow : OpenClaim := { program := "ytjcfjgcnkbbgmaa", sum := "7454c1b4b3ae1bc93bbba2ef510e17569832c1fb91151ba78fa187695e9400d3", func := "incipit/incipitlaw21.TagsIds", spec := "tagsIds", inPlace := ["internal/bytealg.IndexByteString", "internal/bytealg.IndexString", "internal/abi.NoEscape"], unfollowed := true, recurses := true, named := ["internal/bytealg.MaxLen"], apart := false, narrowed := true }
def TagsIdsUptoSaid : Prop := tagsIdsUptoRow.holds Try.pinned (OpenSpec.upto tagsIdsSpec)

end Rows
end Go.Proofs.Ytjcfjgcnkbbgmaa
