/-
  No cell of these rows narrows 'for every input' (looked for: loops, veiled, ifaces, maps, wideKeys, modest, calm, conditions, laid).
  DERIVED. THE GIVEN ROWS OF THIS SEAT. 4 by the template 'for every input the law returns true; each argument reads behind the call as it read before'; 0 by the template 'total and deterministic' (their statements: YtnfgedbcfclnmaaTotals.lean).
  GIVEN WITH THE SEED: the statements are not yours to turn. If you find one false, say at which input.
  Laid BY PROGRAM, IN A SANDBOX (cutbox-rows.mjs): the forced cells as the released guide's own fill.sh prints them over the translation 50ddec0b907e77a1… (all of the seat's roots in one cut). By AI agents, Wed Nov 11 2026. No macro, syntax, notation, axiom, sorry.
-/
import Derived.Test.YtnfgedbcfclnmaaChecked
import GoSem.Claim
import GoSem.ClaimJoined
import GoSem.ClaimMapViews
import Derived.JoinedTies
import Derived.KernelRfl
namespace Go.Proofs.Ytnfgedbcfclnmaa
/- THE CELL 'sum', in the pinned program and in every row, IS THE sha256 OF THE DUMP (.gsa) THAT YtnfgedbcfclnmaaProg.lean LOADS. Nothing in Lean hashes anything: it is a label: what it is worth is what the hold of that sum in a sandbox is worth. -/
noncomputable def Try.pinned : Pinned := { name := "ytnfgedbcfclnmaa", sum := "50ddec0b907e77a14c3fc30636308b230d84b6aa40287c89349bf91b80ce91bd", checked := Try.checked }
namespace Rows
def none {H : Type} : Left H := { results := [], args := [] }

/-- 'scriptoriumlaw6.LocateColumnsMatchesSpec': WHATEVER THE INPUT: true; the input reads as it did. -/
def locateColumnsMatchesSpecSpec : ChangeSpec := { name := "locateColumnsMatchesSpec", fn := fun _ => fun
  | [d] => { results := [.lit (.bool true)], args := [d] }
  | _ => none }
def locateColumnsMatchesSpecRow : OpenClaim := { program := "ytnfgedbcfclnmaa", sum := "50ddec0b907e77a14c3fc30636308b230d84b6aa40287c89349bf91b80ce91bd", func := "scriptorium/scriptoriumlaw6.LocateColumnsMatchesSpec", spec := "locateColumnsMatchesSpec", unfollowed := true, recurses := true, apart := false }
def LocateColumnsMatchesSpecSaid : Prop := locateColumnsMatchesSpecRow.holds Try.pinned (OpenSpec.ofChange locateColumnsMatchesSpecSpec)

/-- ITS FALSE NEIGHBOUR: 'it returns false'. Refute it at one input. -/
def locateColumnsMatchesSpecWrong : ChangeSpec := { name := "locateColumnsMatchesSpec", fn := fun _ => fun
  | [d] => { results := [.lit (.bool false)], args := [d] }
  | _ => none }
def LocateColumnsMatchesSpecWrongFalsely : Prop := locateColumnsMatchesSpecRow.holds Try.pinned (OpenSpec.ofChange locateColumnsMatchesSpecWrong)

/-- 'scriptoriumlaw6.LocateLeftsMatchesSpec': WHATEVER THE INPUT: true; the input reads as it did. -/
def locateLeftsMatchesSpecSpec : ChangeSpec := { name := "locateLeftsMatchesSpec", fn := fun _ => fun
  | [d1, d2, d3, d4] => { results := [.lit (.bool true)], args := [d1, d2, d3, d4] }
  | _ => none }
def locateLeftsMatchesSpecRow : OpenClaim := { program := "ytnfgedbcfclnmaa", sum := "50ddec0b907e77a14c3fc30636308b230d84b6aa40287c89349bf91b80ce91bd", func := "scriptorium/scriptoriumlaw6.LocateLeftsMatchesSpec", spec := "locateLeftsMatchesSpec", unfollowed := true, recurses := true, apart := false }
def LocateLeftsMatchesSpecSaid : Prop := locateLeftsMatchesSpecRow.holds Try.pinned (OpenSpec.ofChange locateLeftsMatchesSpecSpec)

/-- ITS FALSE NEIGHBOUR: 'it returns false'. Refute it at one input. -/
def locateLeftsMatchesSpecWrong : ChangeSpec := { name := "locateLeftsMatchesSpec", fn := fun _ => fun
  | [d1, d2, d3, d4] => { results := [.lit (.bool false)], args := [d1, d2, d3, d4] }
  | _ => none }
def LocateLeftsMatchesSpecWrongFalsely : Prop := locateLeftsMatchesSpecRow.holds Try.pinned (OpenSpec.ofChange locateLeftsMatchesSpecWrong)

/-- 'scriptoriumlaw6.LocateAgreeMatchesSpec': WHATEVER THE INPUT: true; the input reads as it did. -/
def locateAgreeMatchesSpecSpec : ChangeSpec := { name := "locateAgreeMatchesSpec", fn := fun _ => fun
  | [d1, d2] => { results := [.lit (.bool true)], args := [d1, d2] }
  | _ => none }
def locateAgreeMatchesSpecRow : OpenClaim := { program := "ytnfgedbcfclnmaa", sum := "50ddec0b907e77a14c3fc30636308b230d84b6aa40287c89349bf91b80ce91bd", func := "scriptorium/scriptoriumlaw6.LocateAgreeMatchesSpec", spec := "locateAgreeMatchesSpec", unfollowed := true, recurses := true, apart := false }
def LocateAgreeMatchesSpecSaid : Prop := locateAgreeMatchesSpecRow.holds Try.pinned (OpenSpec.ofChange locateAgreeMatchesSpecSpec)

/-- ITS FALSE NEIGHBOUR: 'it returns false'. Refute it at one input. -/
def locateAgreeMatchesSpecWrong : ChangeSpec := { name := "locateAgreeMatchesSpec", fn := fun _ => fun
  | [d1, d2] => { results := [.lit (.bool false)], args := [d1, d2] }
  | _ => none }
def LocateAgreeMatchesSpecWrongFalsely : Prop := locateAgreeMatchesSpecRow.holds Try.pinned (OpenSpec.ofChange locateAgreeMatchesSpecWrong)

/-- 'scriptoriumlaw6.LocateTurnsAreFound': WHATEVER THE INPUT: true; the input reads as it did. -/
def locateTurnsAreFoundSpec : ChangeSpec := { name := "locateTurnsAreFound", fn := fun _ => fun
  | [d1, d2] => { results := [.lit (.bool true)], args := [d1, d2] }
  | _ => none }
def locateTurnsAreFoundRow : OpenClaim := { program := "ytnfgedbcfclnmaa", sum := "50ddec0b907e77a14c3fc30636308b230d84b6aa40287c89349bf91b80ce91bd", func := "scriptorium/scriptoriumlaw6.LocateTurnsAreFound", spec := "locateTurnsAreFound", unfollowed := true, recurses := true, apart := false }
def LocateTurnsAreFoundSaid : Prop := locateTurnsAreFoundRow.holds Try.pinned (OpenSpec.ofChange locateTurnsAreFoundSpec)

/-- ITS FALSE NEIGHBOUR: 'it returns false'. Refute it at one input. -/
def locateTurnsAreFoundWrong : ChangeSpec := { name := "locateTurnsAreFound", fn := fun _ => fun
  | [d1, d2] => { results := [.lit (.bool false)], args := [d1, d2] }
  | _ => none }
def LocateTurnsAreFoundWrongFalsely : Prop := locateTurnsAreFoundRow.holds Try.pinned (OpenSpec.ofChange locateTurnsAreFoundWrong)

/- THE SECOND FORM. 'bulk': how many values and letters a reading holds, each counted each time it is reached (what is shared counts as often as it is met; a slice's spare places count too). A statement '..UptoSaid' is the law's where the arguments, and the package variables that the reading takes, are together of bulk at most 1048576: NARROWER than '..Said'. Prove '..Said' where nothing that the law and all that it calls make is longer than what came in: it says more and counts as full. Else prove '..UptoSaid'. A law counts once. -/
mutual
def uptoBulk {H : Type} : DataW H → Nat
  | .lit (.string bytes) => bytes.length + 1
  | .lit _ => 1
  | .nil => 1
  | .ptr d => uptoBulk d + 1
  | .slice elems spare => uptoBulkAll elems + uptoBulkAll spare + 1
  | .agg parts => uptoBulkAll parts + 1
  | .iface _ d => uptoBulk d + 1
  | .map entries => uptoBulkEntries entries + 1
  | .held _ => 1
def uptoBulkAll {H : Type} : List (DataW H) → Nat
  | [] => 0
  | d :: r => uptoBulk d + uptoBulkAll r
def uptoBulkEntries {H : Type} : List (Lit × DataW H) → Nat
  | [] => 0
  | x :: r => uptoBulkEntry x + uptoBulkEntries r
def uptoBulkEntry {H : Type} : Lit × DataW H → Nat
  | (.string bytes, d) => bytes.length + uptoBulk d + 1
  | (_, d) => uptoBulk d + 1
 end
def uptoSmall : (H : Type) → List (DataW H) → Bool := fun _ ds => decide (uptoBulkAll ds ≤ 1048576)
def OpenSpec.upto (s : _root_.Go.ChangeSpec) : _root_.Go.OpenSpec := { _root_.Go.OpenSpec.ofChange s with cond := some uptoSmall }

/-- 'scriptoriumlaw6.LocateColumnsMatchesSpec', WHERE WHAT IT READS IS OF BULK AT MOST 1048576: true; the input reads as it did. -/
def locateColumnsMatchesSpecUptoRow : OpenClaim := { program := "ytnfgedbcfclnmaa", sum := "50ddec0b907e77a14c3fc30636308b230d84b6aa40287c89349bf91b80ce91bd", func := "scriptorium/scriptoriumlaw6.LocateColumnsMatchesSpec", spec := "locateColumnsMatchesSpec", unfollowed := true, recurses := true, apart := false, narrowed := true }
def LocateColumnsMatchesSpecUptoSaid : Prop := locateColumnsMatchesSpecUptoRow.holds Try.pinned (OpenSpec.upto locateColumnsMatchesSpecSpec)

/-- 'scriptoriumlaw6.LocateLeftsMatchesSpec', WHERE WHAT IT READS IS OF BULK AT MOST 1048576: true; the input reads as it did. -/
def locateLeftsMatchesSpecUptoRow : OpenClaim := { program := "ytnfgedbcfclnmaa", sum := "50ddec0b907e77a14c3fc30636308b230d84b6aa40287c89349bf91b80ce91bd", func := "scriptorium/scriptoriumlaw6.LocateLeftsMatchesSpec", spec := "locateLeftsMatchesSpec", unfollowed := true, recurses := true, apart := false, narrowed := true }
def LocateLeftsMatchesSpecUptoSaid : Prop := locateLeftsMatchesSpecUptoRow.holds Try.pinned (OpenSpec.upto locateLeftsMatchesSpecSpec)

/-- 'scriptoriumlaw6.LocateAgreeMatchesSpec', WHERE WHAT IT READS IS OF BULK AT MOST 1048576: true; the input reads as it did. -/
def locateAgreeMatchesSpecUptoRow : OpenClaim := { program := "ytnfgedbcfclnmaa", sum := "50ddec0b907e77a14c3fc30636308b230d84b6aa40287c89349bf91b80ce91bd", func := "scriptorium/scriptoriumlaw6.LocateAgreeMatchesSpec", spec := "locateAgreeMatchesSpec", unfollowed := true, recurses := true, apart := false, narrowed := true }
def LocateAgreeMatchesSpecUptoSaid : Prop := locateAgreeMatchesSpecUptoRow.holds Try.pinned (OpenSpec.upto locateAgreeMatchesSpecSpec)

/-- 'scriptoriumlaw6.LocateTurnsAreFound', WHERE WHAT IT READS IS OF BULK AT MOST 1048576: true; the input reads as it did. -/
def locateTurnsAreFoundUptoRow : OpenClaim := { program := "ytnfgedbcfclnmaa", sum := "50ddec0b907e77a14c3fc30636308b230d84b6aa40287c89349bf91b80ce91bd", func := "scriptorium/scriptoriumlaw6.LocateTurnsAreFound", spec := "locateTurnsAreFound", unfollowed := true, recurses := true, apart := false, narrowed := true }
def LocateTurnsAreFoundUptoSaid : Prop := locateTurnsAreFoundUptoRow.holds Try.pinned (OpenSpec.upto locateTurnsAreFoundSpec)

end Rows
end Go.Proofs.Ytnfgedbcfclnmaa
