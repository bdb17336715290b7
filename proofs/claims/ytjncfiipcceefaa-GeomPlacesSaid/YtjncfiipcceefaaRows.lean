/-
  No cell of these rows narrows 'for every input' (looked for: loops, veiled, ifaces, maps, wideKeys, modest, calm, conditions, laid).
  DERIVED. THE GIVEN ROWS OF THIS SEAT. 5 by the template 'for every input the law returns true; each argument reads behind the call as it read before'; 0 by the template 'total and deterministic' (their statements: YtjncfiipcceefaaTotals.lean).
  GIVEN WITH THE SEED: the statements are not yours to turn. If you find one false, say at which input.
  Laid BY PROGRAM, IN A SANDBOX (cutbox-rows.mjs): the forced cells as the released guide's own fill.sh prints them over the translation 86c0096e5307e4cc… (all of the seat's roots in one cut). By AI agents, Wed Nov 11 2026. No macro, syntax, notation, axiom, sorry.
-/
import Derived.Test.YtjncfiipcceefaaChecked
import GoSem.Claim
import GoSem.ClaimJoined
import GoSem.ClaimMapViews
import Derived.JoinedTies
import Derived.KernelRfl
namespace Go.Proofs.Ytjncfiipcceefaa
/- THE CELL 'sum', in the pinned program and in every row, IS THE sha256 OF THE DUMP (.gsa) THAT YtjncfiipcceefaaProg.lean LOADS. Nothing in Lean hashes anything: it is a label: what it is worth is what the hold of that sum in a sandbox is worth. -/
noncomputable def Try.pinned : Pinned := { name := "ytjncfiipcceefaa", sum := "86c0096e5307e4cce24ef3774a504697c5fdf5295e45f510775fd60e201620cd", checked := Try.checked }
namespace Rows
def none {H : Type} : Left H := { results := [], args := [] }

/-- 'bollardlaw04.GeomCan': WHATEVER THE INPUT: true; the input reads as it did. -/
def geomCanSpec : ChangeSpec := { name := "geomCan", fn := fun _ => fun
  | [d] => { results := [.lit (.bool true)], args := [d] }
  | _ => none }
def geomCanRow : OpenClaim := { program := "ytjncfiipcceefaa", sum := "86c0096e5307e4cce24ef3774a504697c5fdf5295e45f510775fd60e201620cd", func := "bollard/bollardlaw04.GeomCan", spec := "geomCan", plainKeys := false, apart := false }
def GeomCanSaid : Prop := geomCanRow.holds Try.pinned (OpenSpec.ofChange geomCanSpec)

/-- ITS FALSE NEIGHBOUR: 'it returns false'. Refute it at one input. -/
def geomCanWrong : ChangeSpec := { name := "geomCan", fn := fun _ => fun
  | [d] => { results := [.lit (.bool false)], args := [d] }
  | _ => none }
def GeomCanWrongFalsely : Prop := geomCanRow.holds Try.pinned (OpenSpec.ofChange geomCanWrong)

/-- 'bollardlaw04.GeomGroups': WHATEVER THE INPUT: true; the input reads as it did. -/
def geomGroupsSpec : ChangeSpec := { name := "geomGroups", fn := fun _ => fun
  | [d1, d2] => { results := [.lit (.bool true)], args := [d1, d2] }
  | _ => none }
def geomGroupsRow : OpenClaim := { program := "ytjncfiipcceefaa", sum := "86c0096e5307e4cce24ef3774a504697c5fdf5295e45f510775fd60e201620cd", func := "bollard/bollardlaw04.GeomGroups", spec := "geomGroups", plainKeys := false, apart := false }
def GeomGroupsSaid : Prop := geomGroupsRow.holds Try.pinned (OpenSpec.ofChange geomGroupsSpec)

/-- ITS FALSE NEIGHBOUR: 'it returns false'. Refute it at one input. -/
def geomGroupsWrong : ChangeSpec := { name := "geomGroups", fn := fun _ => fun
  | [d1, d2] => { results := [.lit (.bool false)], args := [d1, d2] }
  | _ => none }
def GeomGroupsWrongFalsely : Prop := geomGroupsRow.holds Try.pinned (OpenSpec.ofChange geomGroupsWrong)

/-- 'bollardlaw04.GeomPlaces': WHATEVER THE INPUT: true; the input reads as it did. -/
def geomPlacesSpec : ChangeSpec := { name := "geomPlaces", fn := fun _ => fun
  | [d1, d2, d3] => { results := [.lit (.bool true)], args := [d1, d2, d3] }
  | _ => none }
def geomPlacesRow : OpenClaim := { program := "ytjncfiipcceefaa", sum := "86c0096e5307e4cce24ef3774a504697c5fdf5295e45f510775fd60e201620cd", func := "bollard/bollardlaw04.GeomPlaces", spec := "geomPlaces", plainKeys := false, apart := false }
def GeomPlacesSaid : Prop := geomPlacesRow.holds Try.pinned (OpenSpec.ofChange geomPlacesSpec)

/-- ITS FALSE NEIGHBOUR: 'it returns false'. Refute it at one input. -/
def geomPlacesWrong : ChangeSpec := { name := "geomPlaces", fn := fun _ => fun
  | [d1, d2, d3] => { results := [.lit (.bool false)], args := [d1, d2, d3] }
  | _ => none }
def GeomPlacesWrongFalsely : Prop := geomPlacesRow.holds Try.pinned (OpenSpec.ofChange geomPlacesWrong)

/-- 'bollardlaw04.GeomBack': WHATEVER THE INPUT: true; the input reads as it did. -/
def geomBackSpec : ChangeSpec := { name := "geomBack", fn := fun _ => fun
  | [d1, d2, d3] => { results := [.lit (.bool true)], args := [d1, d2, d3] }
  | _ => none }
def geomBackRow : OpenClaim := { program := "ytjncfiipcceefaa", sum := "86c0096e5307e4cce24ef3774a504697c5fdf5295e45f510775fd60e201620cd", func := "bollard/bollardlaw04.GeomBack", spec := "geomBack", plainKeys := false, apart := false }
def GeomBackSaid : Prop := geomBackRow.holds Try.pinned (OpenSpec.ofChange geomBackSpec)

/-- ITS FALSE NEIGHBOUR: 'it returns false'. Refute it at one input. -/
def geomBackWrong : ChangeSpec := { name := "geomBack", fn := fun _ => fun
  | [d1, d2, d3] => { results := [.lit (.bool false)], args := [d1, d2, d3] }
  | _ => none }
def GeomBackWrongFalsely : Prop := geomBackRow.holds Try.pinned (OpenSpec.ofChange geomBackWrong)

/-- 'bollardlaw04.GeomApart': WHATEVER THE INPUT: true; the input reads as it did. -/
def geomApartSpec : ChangeSpec := { name := "geomApart", fn := fun _ => fun
  | [d] => { results := [.lit (.bool true)], args := [d] }
  | _ => none }
def geomApartRow : OpenClaim := { program := "ytjncfiipcceefaa", sum := "86c0096e5307e4cce24ef3774a504697c5fdf5295e45f510775fd60e201620cd", func := "bollard/bollardlaw04.GeomApart", spec := "geomApart", plainKeys := false, apart := false }
def GeomApartSaid : Prop := geomApartRow.holds Try.pinned (OpenSpec.ofChange geomApartSpec)

/-- ITS FALSE NEIGHBOUR: 'it returns false'. Refute it at one input. -/
def geomApartWrong : ChangeSpec := { name := "geomApart", fn := fun _ => fun
  | [d] => { results := [.lit (.bool false)], args := [d] }
  | _ => none }
def GeomApartWrongFalsely : Prop := geomApartRow.holds Try.pinned (OpenSpec.ofChange geomApartWrong)

/- THE SECOND FORM. 'bulk': how many values and letters a reading holds, each counted each time it is reached (what is shared counts as often as it is met; a slice's spare places count too). A statement '..UptoSaid' is the law's where the arguments, and the package variables that the reading takes, are together of bulk at most 1048576: NARROWER than '..Said'. Prove '..Said' where nothing that the law and all that it calls make is longer than what came in: it says more and counts as full. Else prove '..UptoSaid'. A law counts once. -/
mutual
def uptoBulk {H : Type} : DataW H → Nat
  | .lit (.string bytes) => bytes.length + 1
  | .lit _ => 1
  | .nil => 1
  | .ptr d => uptoBulk d + 1
  | .slice elems spare => uptoBulkAll elems + uptoBulkAll spare + 1
  | .agg parts => uptoBulkAll parts + 1
  | .iface _ d => uptoBulk d + 1
  | .map entries => uptoBulkEntries entries + 1
  | .held _ => 1
def uptoBulkAll {H : Type} : List (DataW H) → Nat
  | [] => 0
  | d :: r => uptoBulk d + uptoBulkAll r
def uptoBulkEntries {H : Type} : List (Lit × DataW H) → Nat
  | [] => 0
  | x :: r => uptoBulkEntry x + uptoBulkEntries r
def uptoBulkEntry {H : Type} : Lit × DataW H → Nat
  | (.string bytes, d) => bytes.length + uptoBulk d + 1
  | (_, d) => uptoBulk d + 1
 end
def uptoSmall : (H : Type) → List (DataW H) → Bool := fun _ ds => decide (uptoBulkAll ds ≤ 1048576)
def OpenSpec.upto (s : _root_.Go.ChangeSpec) : _root_.Go.OpenSpec := { _root_.Go.OpenSpec.ofChange s with cond := some uptoSmall }

/-- 'bollardlaw04.GeomCan', WHERE WHAT IT READS IS OF BULK AT MOST 1048576: true; the input reads as it did. -/
def geomCanUptoRow : OpenClaim := { program := "ytjncfiipcceefaa", sum := "86c0096e5307e4cce24ef3774a504697c5fdf5295e45f510775fd60e201620cd", func := "bollard/bollardlaw04.GeomCan", spec := "geomCan", plainKeys := false, apart := false, narrowed := true }
def GeomCanUptoSaid : Prop := geomCanUptoRow.holds Try.pinned (OpenSpec.upto geomCanSpec)

/-- 'bollardlaw04.GeomGroups', WHERE WHAT IT READS IS OF BULK AT MOST 1048576: true; the input reads as it did. -/
def geomGroupsUptoRow : OpenClaim := { program := "ytjncfiipcceefaa", sum := "86c0096e5307e4cce24ef3774a504697c5fdf5295e45f510775fd60e201620cd", func := "bollard/bollardlaw04.GeomGroups", spec := "geomGroups", plainKeys := false, apart := false, narrowed := true }
def GeomGroupsUptoSaid : Prop := geomGroupsUptoRow.holds Try.pinned (OpenSpec.upto geomGroupsSpec)

/-- 'bollardlaw04.GeomPlaces', WHERE WHAT IT READS IS OF BULK AT MOST 1048576: true; the input reads as it did. -/
def geomPlacesUptoRow : OpenClaim := { program := "ytjncfiipcceefaa", sum := "86c0096e5307e4cce24ef3774a504697c5fdf5295e45f510775fd60e201620cd", func := "bollard/bollardlaw04.GeomPlaces", spec := "geomPlaces", plainKeys := false, apart := false, narrowed := true }
def GeomPlacesUptoSaid : Prop := geomPlacesUptoRow.holds Try.pinned (OpenSpec.upto geomPlacesSpec)

/-- 'bollardlaw04.GeomBack', WHERE WHAT IT READS IS OF BULK AT MOST 1048576: true; the input reads as it did. -/
def geomBackUptoRow : OpenClaim := { program := "ytjncfiipcceefaa", sum := "86c0096e5307e4cce24ef3774a504697c5fdf5295e45f510775fd60e201620cd", func := "bollard/bollardlaw04.GeomBack", spec := "geomBack", plainKeys := false, apart := false, narrowed := true }
def GeomBackUptoSaid : Prop := geomBackUptoRow.holds Try.pinned (OpenSpec.upto geomBackSpec)

/-- 'bollardlaw04.GeomApart', WHERE WHAT IT READS IS OF BULK AT MOST 1048576: true; the input reads as it did. -/
def geomApartUptoRow : OpenClaim := { program := "ytjncfiipcceefaa", sum := "86c0096e5307e4cce24ef3774a504697c5fdf5295e45f510775fd60e201620cd", func := "bollard/bollardlaw04.GeomApart", spec := "geomApart", plainKeys := false, apart := false, narrowed := true }
def GeomApartUptoSaid : Prop := geomApartUptoRow.holds Try.pinned (OpenSpec.upto geomApartSpec)

end Rows
end Go.Proofs.Ytjncfiipcceefaa
