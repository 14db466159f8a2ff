/-
  No cell of these rows narrows 'for every input' (looked for: loops, veiled, ifaces, maps, wideKeys, modest, calm, conditions, laid).
  DERIVED. THE GIVEN ROWS OF THIS SEAT. 19 by the template 'for every input the law returns true; each argument reads behind the call as it read before'; 0 by the template 'total and deterministic' (their statements: YtboelmakccaenaaTotals.lean).
  GIVEN WITH THE SEED: the statements are not yours to turn. If you find one false, say at which input.
  Laid BY PROGRAM, IN A SANDBOX (cutbox-rows.mjs): the forced cells as the released guide's own fill.sh prints them over the translation 87428af71d34e5f2… (all of the seat's roots in one cut). By AI agents, Wed Nov 11 2026. No macro, syntax, notation, axiom, sorry.
-/
import Derived.Test.YtboelmakccaenaaChecked
import GoSem.Claim
import GoSem.ClaimJoined
import GoSem.ClaimMapViews
import Derived.JoinedTies
import Derived.KernelRfl
namespace Go.Proofs.Ytboelmakccaenaa
/- THE CELL 'sum', in the pinned program and in every row, IS THE sha256 OF THE DUMP (.gsa) THAT YtboelmakccaenaaProg.lean LOADS. Nothing in Lean hashes anything: it is a label: what it is worth is what the hold of that sum in a sandbox is worth. -/
noncomputable def Try.pinned : Pinned := { name := "ytboelmakccaenaa", sum := "87428af71d34e5f27868b452ccf648aa7cc5979bb9f99e9e68ffb652cffb0eab", checked := Try.checked }
namespace Rows
def none {H : Type} : Left H := { results := [], args := [] }

/-- 'hustingslaw08.QuoteValid': WHATEVER THE INPUT: true; the input reads as it did. -/
def quoteValidSpec : ChangeSpec := { name := "quoteValid", fn := fun _ => fun
  | [d] => { results := [.lit (.bool true)], args := [d] }
  | _ => none }
def quoteValidRow : OpenClaim := { program := "ytboelmakccaenaa", sum := "87428af71d34e5f27868b452ccf648aa7cc5979bb9f99e9e68ffb652cffb0eab", func := "hustings/hustingslaw08.QuoteValid", spec := "quoteValid", apart := false }
def QuoteValidSaid : Prop := quoteValidRow.holds Try.pinned (OpenSpec.ofChange quoteValidSpec)

/-- ITS FALSE NEIGHBOUR: 'it returns false'. Refute it at one input. -/
def quoteValidWrong : ChangeSpec := { name := "quoteValid", fn := fun _ => fun
  | [d] => { results := [.lit (.bool false)], args := [d] }
  | _ => none }
def QuoteValidWrongFalsely : Prop := quoteValidRow.holds Try.pinned (OpenSpec.ofChange quoteValidWrong)

/-- 'hustingslaw01.LettersWrites': WHATEVER THE INPUT: true; the input reads as it did. -/
def lettersWritesSpec : ChangeSpec := { name := "lettersWrites", fn := fun _ => fun
  | [d] => { results := [.lit (.bool true)], args := [d] }
  | _ => none }
def lettersWritesRow : OpenClaim := { program := "ytboelmakccaenaa", sum := "87428af71d34e5f27868b452ccf648aa7cc5979bb9f99e9e68ffb652cffb0eab", func := "hustings/hustingslaw01.LettersWrites", spec := "lettersWrites", apart := false }
def LettersWritesSaid : Prop := lettersWritesRow.holds Try.pinned (OpenSpec.ofChange lettersWritesSpec)

/-- ITS FALSE NEIGHBOUR: 'it returns false'. Refute it at one input. -/
def lettersWritesWrong : ChangeSpec := { name := "lettersWrites", fn := fun _ => fun
  | [d] => { results := [.lit (.bool false)], args := [d] }
  | _ => none }
def LettersWritesWrongFalsely : Prop := lettersWritesRow.holds Try.pinned (OpenSpec.ofChange lettersWritesWrong)

/-- 'hustingslaw10.IdentKeys': WHATEVER THE INPUT: true; the input reads as it did. -/
def identKeysSpec : ChangeSpec := { name := "identKeys", fn := fun _ => fun
  | [d] => { results := [.lit (.bool true)], args := [d] }
  | _ => none }
def identKeysRow : OpenClaim := { program := "ytboelmakccaenaa", sum := "87428af71d34e5f27868b452ccf648aa7cc5979bb9f99e9e68ffb652cffb0eab", func := "hustings/hustingslaw10.IdentKeys", spec := "identKeys", unfollowed := true, recurses := true, apart := false }
def IdentKeysSaid : Prop := identKeysRow.holds Try.pinned (OpenSpec.ofChange identKeysSpec)

/-- ITS FALSE NEIGHBOUR: 'it returns false'. Refute it at one input. -/
def identKeysWrong : ChangeSpec := { name := "identKeys", fn := fun _ => fun
  | [d] => { results := [.lit (.bool false)], args := [d] }
  | _ => none }
def IdentKeysWrongFalsely : Prop := identKeysRow.holds Try.pinned (OpenSpec.ofChange identKeysWrong)

/-- 'hustingslaw01.LettersCounts': WHATEVER THE INPUT: true; the input reads as it did. -/
def lettersCountsSpec : ChangeSpec := { name := "lettersCounts", fn := fun _ => fun
  | [d1, d2] => { results := [.lit (.bool true)], args := [d1, d2] }
  | _ => none }
def lettersCountsRow : OpenClaim := { program := "ytboelmakccaenaa", sum := "87428af71d34e5f27868b452ccf648aa7cc5979bb9f99e9e68ffb652cffb0eab", func := "hustings/hustingslaw01.LettersCounts", spec := "lettersCounts", apart := false }
def LettersCountsSaid : Prop := lettersCountsRow.holds Try.pinned (OpenSpec.ofChange lettersCountsSpec)

/-- ITS FALSE NEIGHBOUR: 'it returns false'. Refute it at one input. -/
def lettersCountsWrong : ChangeSpec := { name := "lettersCounts", fn := fun _ => fun
  | [d1, d2] => { results := [.lit (.bool false)], args := [d1, d2] }
  | _ => none }
def LettersCountsWrongFalsely : Prop := lettersCountsRow.holds Try.pinned (OpenSpec.ofChange lettersCountsWrong)

/-- 'hustingslaw01.LettersReads': WHATEVER THE INPUT: true; the input reads as it did. -/
def lettersReadsSpec : ChangeSpec := { name := "lettersReads", fn := fun _ => fun
  | [d1, d2] => { results := [.lit (.bool true)], args := [d1, d2] }
  | _ => none }
def lettersReadsRow : OpenClaim := { program := "ytboelmakccaenaa", sum := "87428af71d34e5f27868b452ccf648aa7cc5979bb9f99e9e68ffb652cffb0eab", func := "hustings/hustingslaw01.LettersReads", spec := "lettersReads", apart := false }
def LettersReadsSaid : Prop := lettersReadsRow.holds Try.pinned (OpenSpec.ofChange lettersReadsSpec)

/-- ITS FALSE NEIGHBOUR: 'it returns false'. Refute it at one input. -/
def lettersReadsWrong : ChangeSpec := { name := "lettersReads", fn := fun _ => fun
  | [d1, d2] => { results := [.lit (.bool false)], args := [d1, d2] }
  | _ => none }
def LettersReadsWrongFalsely : Prop := lettersReadsRow.holds Try.pinned (OpenSpec.ofChange lettersReadsWrong)

/-- 'hustingslaw10.IdentEvents': WHATEVER THE INPUT: true; the input reads as it did. -/
def identEventsSpec : ChangeSpec := { name := "identEvents", fn := fun _ => fun
  | [d1, d2] => { results := [.lit (.bool true)], args := [d1, d2] }
  | _ => none }
def identEventsRow : OpenClaim := { program := "ytboelmakccaenaa", sum := "87428af71d34e5f27868b452ccf648aa7cc5979bb9f99e9e68ffb652cffb0eab", func := "hustings/hustingslaw10.IdentEvents", spec := "identEvents", apart := false }
def IdentEventsSaid : Prop := identEventsRow.holds Try.pinned (OpenSpec.ofChange identEventsSpec)

/-- ITS FALSE NEIGHBOUR: 'it returns false'. Refute it at one input. -/
def identEventsWrong : ChangeSpec := { name := "identEvents", fn := fun _ => fun
  | [d1, d2] => { results := [.lit (.bool false)], args := [d1, d2] }
  | _ => none }
def IdentEventsWrongFalsely : Prop := identEventsRow.holds Try.pinned (OpenSpec.ofChange identEventsWrong)

/-- 'hustingslaw01.LettersBack': WHATEVER THE INPUT: true; the input reads as it did. -/
def lettersBackSpec : ChangeSpec := { name := "lettersBack", fn := fun _ => fun
  | [d1, d2, d3] => { results := [.lit (.bool true)], args := [d1, d2, d3] }
  | _ => none }
def lettersBackRow : OpenClaim := { program := "ytboelmakccaenaa", sum := "87428af71d34e5f27868b452ccf648aa7cc5979bb9f99e9e68ffb652cffb0eab", func := "hustings/hustingslaw01.LettersBack", spec := "lettersBack", apart := false }
def LettersBackSaid : Prop := lettersBackRow.holds Try.pinned (OpenSpec.ofChange lettersBackSpec)

/-- ITS FALSE NEIGHBOUR: 'it returns false'. Refute it at one input. -/
def lettersBackWrong : ChangeSpec := { name := "lettersBack", fn := fun _ => fun
  | [d1, d2, d3] => { results := [.lit (.bool false)], args := [d1, d2, d3] }
  | _ => none }
def LettersBackWrongFalsely : Prop := lettersBackRow.holds Try.pinned (OpenSpec.ofChange lettersBackWrong)

/-- 'hustingslaw01.LettersParts': WHATEVER THE INPUT: true; the input reads as it did. -/
def lettersPartsSpec : ChangeSpec := { name := "lettersParts", fn := fun _ => fun
  | [d1, d2, d3] => { results := [.lit (.bool true)], args := [d1, d2, d3] }
  | _ => none }
def lettersPartsRow : OpenClaim := { program := "ytboelmakccaenaa", sum := "87428af71d34e5f27868b452ccf648aa7cc5979bb9f99e9e68ffb652cffb0eab", func := "hustings/hustingslaw01.LettersParts", spec := "lettersParts", apart := false }
def LettersPartsSaid : Prop := lettersPartsRow.holds Try.pinned (OpenSpec.ofChange lettersPartsSpec)

/-- ITS FALSE NEIGHBOUR: 'it returns false'. Refute it at one input. -/
def lettersPartsWrong : ChangeSpec := { name := "lettersParts", fn := fun _ => fun
  | [d1, d2, d3] => { results := [.lit (.bool false)], args := [d1, d2, d3] }
  | _ => none }
def LettersPartsWrongFalsely : Prop := lettersPartsRow.holds Try.pinned (OpenSpec.ofChange lettersPartsWrong)

/-- 'hustingslaw01.LettersKeeps': WHATEVER THE INPUT: true; the input reads as it did. -/
def lettersKeepsSpec : ChangeSpec := { name := "lettersKeeps", fn := fun _ => fun
  | [d1, d2] => { results := [.lit (.bool true)], args := [d1, d2] }
  | _ => none }
def lettersKeepsRow : OpenClaim := { program := "ytboelmakccaenaa", sum := "87428af71d34e5f27868b452ccf648aa7cc5979bb9f99e9e68ffb652cffb0eab", func := "hustings/hustingslaw01.LettersKeeps", spec := "lettersKeeps", apart := false }
def LettersKeepsSaid : Prop := lettersKeepsRow.holds Try.pinned (OpenSpec.ofChange lettersKeepsSpec)

/-- ITS FALSE NEIGHBOUR: 'it returns false'. Refute it at one input. -/
def lettersKeepsWrong : ChangeSpec := { name := "lettersKeeps", fn := fun _ => fun
  | [d1, d2] => { results := [.lit (.bool false)], args := [d1, d2] }
  | _ => none }
def LettersKeepsWrongFalsely : Prop := lettersKeepsRow.holds Try.pinned (OpenSpec.ofChange lettersKeepsWrong)

/-- 'hustingslaw08.QuotePuts': WHATEVER THE INPUT: true; the input reads as it did. -/
def quotePutsSpec : ChangeSpec := { name := "quotePuts", fn := fun _ => fun
  | [d] => { results := [.lit (.bool true)], args := [d] }
  | _ => none }
def quotePutsRow : OpenClaim := { program := "ytboelmakccaenaa", sum := "87428af71d34e5f27868b452ccf648aa7cc5979bb9f99e9e68ffb652cffb0eab", func := "hustings/hustingslaw08.QuotePuts", spec := "quotePuts", apart := false }
def QuotePutsSaid : Prop := quotePutsRow.holds Try.pinned (OpenSpec.ofChange quotePutsSpec)

/-- ITS FALSE NEIGHBOUR: 'it returns false'. Refute it at one input. -/
def quotePutsWrong : ChangeSpec := { name := "quotePuts", fn := fun _ => fun
  | [d] => { results := [.lit (.bool false)], args := [d] }
  | _ => none }
def QuotePutsWrongFalsely : Prop := quotePutsRow.holds Try.pinned (OpenSpec.ofChange quotePutsWrong)

/-- 'hustingslaw10.IdentServers': WHATEVER THE INPUT: true; the input reads as it did. -/
def identServersSpec : ChangeSpec := { name := "identServers", fn := fun _ => fun
  | [d] => { results := [.lit (.bool true)], args := [d] }
  | _ => none }
def identServersRow : OpenClaim := { program := "ytboelmakccaenaa", sum := "87428af71d34e5f27868b452ccf648aa7cc5979bb9f99e9e68ffb652cffb0eab", func := "hustings/hustingslaw10.IdentServers", spec := "identServers", inPlace := ["internal/bytealg.IndexByteString", "internal/bytealg.IndexString"], unfollowed := true, recurses := true, named := ["internal/bytealg.MaxLen"], apart := false }
def IdentServersSaid : Prop := identServersRow.holds Try.pinned (OpenSpec.ofChange identServersSpec)

/-- ITS FALSE NEIGHBOUR: 'it returns false'. Refute it at one input. -/
def identServersWrong : ChangeSpec := { name := "identServers", fn := fun _ => fun
  | [d] => { results := [.lit (.bool false)], args := [d] }
  | _ => none }
def IdentServersWrongFalsely : Prop := identServersRow.holds Try.pinned (OpenSpec.ofChange identServersWrong)

/-- 'hustingslaw10.IdentRooms': WHATEVER THE INPUT: true; the input reads as it did. -/
def identRoomsSpec : ChangeSpec := { name := "identRooms", fn := fun _ => fun
  | [d] => { results := [.lit (.bool true)], args := [d] }
  | _ => none }
def identRoomsRow : OpenClaim := { program := "ytboelmakccaenaa", sum := "87428af71d34e5f27868b452ccf648aa7cc5979bb9f99e9e68ffb652cffb0eab", func := "hustings/hustingslaw10.IdentRooms", spec := "identRooms", inPlace := ["internal/bytealg.IndexByteString", "internal/bytealg.IndexString"], unfollowed := true, recurses := true, named := ["internal/bytealg.MaxLen"], apart := false }
def IdentRoomsSaid : Prop := identRoomsRow.holds Try.pinned (OpenSpec.ofChange identRoomsSpec)

/-- ITS FALSE NEIGHBOUR: 'it returns false'. Refute it at one input. -/
def identRoomsWrong : ChangeSpec := { name := "identRooms", fn := fun _ => fun
  | [d] => { results := [.lit (.bool false)], args := [d] }
  | _ => none }
def IdentRoomsWrongFalsely : Prop := identRoomsRow.holds Try.pinned (OpenSpec.ofChange identRoomsWrong)

/-- 'hustingslaw19.SpoolReads': WHATEVER THE INPUT: true; the input reads as it did. -/
def spoolReadsSpec : ChangeSpec := { name := "spoolReads", fn := fun _ => fun
  | [d] => { results := [.lit (.bool true)], args := [d] }
  | _ => none }
def spoolReadsRow : OpenClaim := { program := "ytboelmakccaenaa", sum := "87428af71d34e5f27868b452ccf648aa7cc5979bb9f99e9e68ffb652cffb0eab", func := "hustings/hustingslaw19.SpoolReads", spec := "spoolReads", inPlace := ["internal/bytealg.IndexByteString"], unfollowed := true, recurses := true, apart := false }
def SpoolReadsSaid : Prop := spoolReadsRow.holds Try.pinned (OpenSpec.ofChange spoolReadsSpec)

/-- ITS FALSE NEIGHBOUR: 'it returns false'. Refute it at one input. -/
def spoolReadsWrong : ChangeSpec := { name := "spoolReads", fn := fun _ => fun
  | [d] => { results := [.lit (.bool false)], args := [d] }
  | _ => none }
def SpoolReadsWrongFalsely : Prop := spoolReadsRow.holds Try.pinned (OpenSpec.ofChange spoolReadsWrong)

/-- 'hustingslaw19.SpoolLines': WHATEVER THE INPUT: true; the input reads as it did. -/
def spoolLinesSpec : ChangeSpec := { name := "spoolLines", fn := fun _ => fun
  | [d1, d2] => { results := [.lit (.bool true)], args := [d1, d2] }
  | _ => none }
def spoolLinesRow : OpenClaim := { program := "ytboelmakccaenaa", sum := "87428af71d34e5f27868b452ccf648aa7cc5979bb9f99e9e68ffb652cffb0eab", func := "hustings/hustingslaw19.SpoolLines", spec := "spoolLines", inPlace := ["internal/bytealg.IndexByteString"], unfollowed := true, recurses := true, apart := false }
def SpoolLinesSaid : Prop := spoolLinesRow.holds Try.pinned (OpenSpec.ofChange spoolLinesSpec)

/-- ITS FALSE NEIGHBOUR: 'it returns false'. Refute it at one input. -/
def spoolLinesWrong : ChangeSpec := { name := "spoolLines", fn := fun _ => fun
  | [d1, d2] => { results := [.lit (.bool false)], args := [d1, d2] }
  | _ => none }
def SpoolLinesWrongFalsely : Prop := spoolLinesRow.holds Try.pinned (OpenSpec.ofChange spoolLinesWrong)

/-- 'hustingslaw19.SpoolParts': WHATEVER THE INPUT: true; the input reads as it did. -/
def spoolPartsSpec : ChangeSpec := { name := "spoolParts", fn := fun _ => fun
  | [d1, d2] => { results := [.lit (.bool true)], args := [d1, d2] }
  | _ => none }
def spoolPartsRow : OpenClaim := { program := "ytboelmakccaenaa", sum := "87428af71d34e5f27868b452ccf648aa7cc5979bb9f99e9e68ffb652cffb0eab", func := "hustings/hustingslaw19.SpoolParts", spec := "spoolParts", inPlace := ["internal/bytealg.IndexByteString"], unfollowed := true, recurses := true, apart := false }
def SpoolPartsSaid : Prop := spoolPartsRow.holds Try.pinned (OpenSpec.ofChange spoolPartsSpec)

/-- ITS FALSE NEIGHBOUR: 'it returns false'. Refute it at one input. -/
def spoolPartsWrong : ChangeSpec := { name := "spoolParts", fn := fun _ => fun
  | [d1, d2] => { results := [.lit (.bool false)], args := [d1, d2] }
  | _ => none }
def SpoolPartsWrongFalsely : Prop := spoolPartsRow.holds Try.pinned (OpenSpec.ofChange spoolPartsWrong)

/-- 'hustingslaw19.SpoolLoses': WHATEVER THE INPUT: true; the input reads as it did. -/
def spoolLosesSpec : ChangeSpec := { name := "spoolLoses", fn := fun _ => fun
  | [d1, d2, d3, d4] => { results := [.lit (.bool true)], args := [d1, d2, d3, d4] }
  | _ => none }
def spoolLosesRow : OpenClaim := { program := "ytboelmakccaenaa", sum := "87428af71d34e5f27868b452ccf648aa7cc5979bb9f99e9e68ffb652cffb0eab", func := "hustings/hustingslaw19.SpoolLoses", spec := "spoolLoses", inPlace := ["internal/bytealg.IndexByteString"], unfollowed := true, recurses := true, apart := false }
def SpoolLosesSaid : Prop := spoolLosesRow.holds Try.pinned (OpenSpec.ofChange spoolLosesSpec)

/-- ITS FALSE NEIGHBOUR: 'it returns false'. Refute it at one input. -/
def spoolLosesWrong : ChangeSpec := { name := "spoolLoses", fn := fun _ => fun
  | [d1, d2, d3, d4] => { results := [.lit (.bool false)], args := [d1, d2, d3, d4] }
  | _ => none }
def SpoolLosesWrongFalsely : Prop := spoolLosesRow.holds Try.pinned (OpenSpec.ofChange spoolLosesWrong)

/-- 'hustingslaw19.SpoolDoes': WHATEVER THE INPUT: true; the input reads as it did. -/
def spoolDoesSpec : ChangeSpec := { name := "spoolDoes", fn := fun _ => fun
  | [d1, d2] => { results := [.lit (.bool true)], args := [d1, d2] }
  | _ => none }
def spoolDoesRow : OpenClaim := { program := "ytboelmakccaenaa", sum := "87428af71d34e5f27868b452ccf648aa7cc5979bb9f99e9e68ffb652cffb0eab", func := "hustings/hustingslaw19.SpoolDoes", spec := "spoolDoes", inPlace := ["internal/bytealg.IndexByteString"], unfollowed := true, recurses := true, apart := false }
def SpoolDoesSaid : Prop := spoolDoesRow.holds Try.pinned (OpenSpec.ofChange spoolDoesSpec)

/-- ITS FALSE NEIGHBOUR: 'it returns false'. Refute it at one input. -/
def spoolDoesWrong : ChangeSpec := { name := "spoolDoes", fn := fun _ => fun
  | [d1, d2] => { results := [.lit (.bool false)], args := [d1, d2] }
  | _ => none }
def SpoolDoesWrongFalsely : Prop := spoolDoesRow.holds Try.pinned (OpenSpec.ofChange spoolDoesWrong)

/-- 'hustingslaw10.IdentUsers': WHATEVER THE INPUT: true; the input reads as it did. -/
def identUsersSpec : ChangeSpec := { name := "identUsers", fn := fun _ => fun
  | [d] => { results := [.lit (.bool true)], args := [d] }
  | _ => none }
def identUsersRow : OpenClaim := { program := "ytboelmakccaenaa", sum := "87428af71d34e5f27868b452ccf648aa7cc5979bb9f99e9e68ffb652cffb0eab", func := "hustings/hustingslaw10.IdentUsers", spec := "identUsers", inPlace := ["internal/bytealg.IndexByteString", "internal/bytealg.IndexString"], unfollowed := true, recurses := true, named := ["internal/bytealg.MaxLen"], apart := false }
def IdentUsersSaid : Prop := identUsersRow.holds Try.pinned (OpenSpec.ofChange identUsersSpec)

/-- ITS FALSE NEIGHBOUR: 'it returns false'. Refute it at one input. -/
def identUsersWrong : ChangeSpec := { name := "identUsers", fn := fun _ => fun
  | [d] => { results := [.lit (.bool false)], args := [d] }
  | _ => none }
def IdentUsersWrongFalsely : Prop := identUsersRow.holds Try.pinned (OpenSpec.ofChange identUsersWrong)

/-- 'hustingslaw10.IdentDomains': WHATEVER THE INPUT: true; the input reads as it did. -/
def identDomainsSpec : ChangeSpec := { name := "identDomains", fn := fun _ => fun
  | [d] => { results := [.lit (.bool true)], args := [d] }
  | _ => none }
def identDomainsRow : OpenClaim := { program := "ytboelmakccaenaa", sum := "87428af71d34e5f27868b452ccf648aa7cc5979bb9f99e9e68ffb652cffb0eab", func := "hustings/hustingslaw10.IdentDomains", spec := "identDomains", inPlace := ["internal/bytealg.IndexByteString", "internal/bytealg.IndexString"], unfollowed := true, recurses := true, named := ["internal/bytealg.MaxLen"], apart := false }
def IdentDomainsSaid : Prop := identDomainsRow.holds Try.pinned (OpenSpec.ofChange identDomainsSpec)

/-- ITS FALSE NEIGHBOUR: 'it returns false'. Refute it at one input. -/
def identDomainsWrong : ChangeSpec := { name := "identDomains", fn := fun _ => fun
  | [d] => { results := [.lit (.bool false)], args := [d] }
  | _ => none }
def IdentDomainsWrongFalsely : Prop := identDomainsRow.holds Try.pinned (OpenSpec.ofChange identDomainsWrong)

/- THE SECOND FORM. 'bulk': how many values and letters a reading holds, each counted each time it is reached (what is shared counts as often as it is met; a slice's spare places count too). A statement '..UptoSaid' is the law's where the arguments, and the package variables that the reading takes, are together of bulk at most 1048576: NARROWER than '..Said'. Prove '..Said' where nothing that the law and all that it calls make is longer than what came in: it says more and counts as full. Else prove '..UptoSaid'. A law counts once. -/
mutual
def uptoBulk {H : Type} : DataW H → Nat
  | .lit (.string bytes) => bytes.length + 1
  | .lit _ => 1
  | .nil => 1
  | .ptr d => uptoBulk d + 1
  | .slice elems spare => uptoBulkAll elems + uptoBulkAll spare + 1
  | .agg parts => uptoBulkAll parts + 1
  | .iface _ d => uptoBulk d + 1
  | .map entries => uptoBulkEntries entries + 1
  | .held _ => 1
def uptoBulkAll {H : Type} : List (DataW H) → Nat
  | [] => 0
  | d :: r => uptoBulk d + uptoBulkAll r
def uptoBulkEntries {H : Type} : List (Lit × DataW H) → Nat
  | [] => 0
  | x :: r => uptoBulkEntry x + uptoBulkEntries r
def uptoBulkEntry {H : Type} : Lit × DataW H → Nat
  | (.string bytes, d) => bytes.length + uptoBulk d + 1
  | (_, d) => uptoBulk d + 1
 end
def uptoSmall : (H : Type) → List (DataW H) → Bool := fun _ ds => decide (uptoBulkAll ds ≤ 1048576)
def OpenSpec.upto (s : _root_.Go.ChangeSpec) : _root_.Go.OpenSpec := { _root_.Go.OpenSpec.ofChange s with cond := some uptoSmall }

/-- 'hustingslaw08.QuoteValid', WHERE WHAT IT READS IS OF BULK AT MOST 1048576: true; the input reads as it did. -/
def quoteValidUptoRow : OpenClaim := { program := "ytboelmakccaenaa", sum := "87428af71d34e5f27868b452ccf648aa7cc5979bb9f99e9e68ffb652cffb0eab", func := "hustings/hustingslaw08.QuoteValid", spec := "quoteValid", apart := false, narrowed := true }
def QuoteValidUptoSaid : Prop := quoteValidUptoRow.holds Try.pinned (OpenSpec.upto quoteValidSpec)

/-- 'hustingslaw01.LettersWrites', WHERE WHAT IT READS IS OF BULK AT MOST 1048576: true; the input reads as it did. -/
def lettersWritesUptoRow : OpenClaim := { program := "ytboelmakccaenaa", sum := "87428af71d34e5f27868b452ccf648aa7cc5979bb9f99e9e68ffb652cffb0eab", func := "hustings/hustingslaw01.LettersWrites", spec := "lettersWrites", apart := false, narrowed := true }
def LettersWritesUptoSaid : Prop := lettersWritesUptoRow.holds Try.pinned (OpenSpec.upto lettersWritesSpec)

/-- 'hustingslaw10.IdentKeys', WHERE WHAT IT READS IS OF BULK AT MOST 1048576: true; the input reads as it did. -/
def identKeysUptoRow : OpenClaim := { program := "ytboelmakccaenaa", sum := "87428af71d34e5f27868b452ccf648aa7cc5979bb9f99e9e68ffb652cffb0eab", func := "hustings/hustingslaw10.IdentKeys", spec := "identKeys", unfollowed := true, recurses := true, apart := false, narrowed := true }
def IdentKeysUptoSaid : Prop := identKeysUptoRow.holds Try.pinned (OpenSpec.upto identKeysSpec)

/-- 'hustingslaw01.LettersCounts', WHERE WHAT IT READS IS OF BULK AT MOST 1048576: true; the input reads as it did. -/
def lettersCountsUptoRow : OpenClaim := { program := "ytboelmakccaenaa", sum := "87428af71d34e5f27868b452ccf648aa7cc5979bb9f99e9e68ffb652cffb0eab", func := "hustings/hustingslaw01.LettersCounts", spec := "lettersCounts", apart := false, narrowed := true }
def LettersCountsUptoSaid : Prop := lettersCountsUptoRow.holds Try.pinned (OpenSpec.upto lettersCountsSpec)

/-- 'hustingslaw01.LettersReads', WHERE WHAT IT READS IS OF BULK AT MOST 1048576: true; the input reads as it did. -/
def lettersReadsUptoRow : OpenClaim := { program := "ytboelmakccaenaa", sum := "87428af71d34e5f27868b452ccf648aa7cc5979bb9f99e9e68ffb652cffb0eab", func := "hustings/hustingslaw01.LettersReads", spec := "lettersReads", apart := false, narrowed := true }
def LettersReadsUptoSaid : Prop := lettersReadsUptoRow.holds Try.pinned (OpenSpec.upto lettersReadsSpec)

/-- 'hustingslaw10.IdentEvents', WHERE WHAT IT READS IS OF BULK AT MOST 1048576: true; the input reads as it did. -/
def identEventsUptoRow : OpenClaim := { program := "ytboelmakccaenaa", sum := "87428af71d34e5f27868b452ccf648aa7cc5979bb9f99e9e68ffb652cffb0eab", func := "hustings/hustingslaw10.IdentEvents", spec := "identEvents", apart := false, narrowed := true }
def IdentEventsUptoSaid : Prop := identEventsUptoRow.holds Try.pinned (OpenSpec.upto identEventsSpec)

/-- 'hustingslaw01.LettersBack', WHERE WHAT IT READS IS OF BULK AT MOST 1048576: true; the input reads as it did. -/
def lettersBackUptoRow : OpenClaim := { program := "ytboelmakccaenaa", sum := "87428af71d34e5f27868b452ccf648aa7cc5979bb9f99e9e68ffb652cffb0eab", func := "hustings/hustingslaw01.LettersBack", spec := "lettersBack", apart := false, narrowed := true }
def LettersBackUptoSaid : Prop := lettersBackUptoRow.holds Try.pinned (OpenSpec.upto lettersBackSpec)

/-- 'hustingslaw01.LettersParts', WHERE WHAT IT READS IS OF BULK AT MOST 1048576: true; the input reads as it did. -/
def lettersPartsUptoRow : OpenClaim := { program := "ytboelmakccaenaa", sum := "87428af71d34e5f27868b452ccf648aa7cc5979bb9f99e9e68ffb652cffb0eab", func := "hustings/hustingslaw01.LettersParts", spec := "lettersParts", apart := false, narrowed := true }
def LettersPartsUptoSaid : Prop := lettersPartsUptoRow.holds Try.pinned (OpenSpec.upto lettersPartsSpec)

/-- 'hustingslaw01.LettersKeeps', WHERE WHAT IT READS IS OF BULK AT MOST 1048576: true; the input reads as it did. -/
def lettersKeepsUptoRow : OpenClaim := { program := "ytboelmakccaenaa", sum := "87428af71d34e5f27868b452ccf648aa7cc5979bb9f99e9e68ffb652cffb0eab", func := "hustings/hustingslaw01.LettersKeeps", spec := "lettersKeeps", apart := false, narrowed := true }
def LettersKeepsUptoSaid : Prop := lettersKeepsUptoRow.holds Try.pinned (OpenSpec.upto lettersKeepsSpec)

/-- 'hustingslaw08.QuotePuts', WHERE WHAT IT READS IS OF BULK AT MOST 1048576: true; the input reads as it did. -/
def quotePutsUptoRow : OpenClaim := { program := "ytboelmakccaenaa", sum := "87428af71d34e5f27868b452ccf648aa7cc5979bb9f99e9e68ffb652cffb0eab", func := "hustings/hustingslaw08.QuotePuts", spec := "quotePuts", apart := false, narrowed := true }
def QuotePutsUptoSaid : Prop := quotePutsUptoRow.holds Try.pinned (OpenSpec.upto quotePutsSpec)

/-- 'hustingslaw10.IdentServers', WHERE WHAT IT READS IS OF BULK AT MOST 1048576: true; the input reads as it did. -/
def identServersUptoRow : OpenClaim := { program := "ytboelmakccaenaa", sum := "87428af71d34e5f27868b452ccf648aa7cc5979bb9f99e9e68ffb652cffb0eab", func := "hustings/hustingslaw10.IdentServers", spec := "identServers", inPlace := ["internal/bytealg.IndexByteString", "internal/bytealg.IndexString"], unfollowed := true, recurses := true, named := ["internal/bytealg.MaxLen"], apart := false, narrowed := true }
def IdentServersUptoSaid : Prop := identServersUptoRow.holds Try.pinned (OpenSpec.upto identServersSpec)

/-- 'hustingslaw10.IdentRooms', WHERE WHAT IT READS IS OF BULK AT MOST 1048576: true; the input reads as it did. -/
def identRoomsUptoRow : OpenClaim := { program := "ytboelmakccaenaa", sum := "87428af71d34e5f27868b452ccf648aa7cc5979bb9f99e9e68ffb652cffb0eab", func := "hustings/hustingslaw10.IdentRooms", spec := "identRooms", inPlace := ["internal/bytealg.IndexByteString", "internal/bytealg.IndexString"], unfollowed := true, recurses := true, named := ["internal/bytealg.MaxLen"], apart := false, narrowed := true }
def IdentRoomsUptoSaid : Prop := identRoomsUptoRow.holds Try.pinned (OpenSpec.upto identRoomsSpec)

/-- 'hustingslaw19.SpoolReads', WHERE WHAT IT READS IS OF BULK AT MOST 1048576: true; the input reads as it did. -/
def spoolReadsUptoRow : OpenClaim := { program := "ytboelmakccaenaa", sum := "87428af71d34e5f27868b452ccf648aa7cc5979bb9f99e9e68ffb652cffb0eab", func := "hustings/hustingslaw19.SpoolReads", spec := "spoolReads", inPlace := ["internal/bytealg.IndexByteString"], unfollowed := true, recurses := true, apart := false, narrowed := true }
def SpoolReadsUptoSaid : Prop := spoolReadsUptoRow.holds Try.pinned (OpenSpec.upto spoolReadsSpec)

/-- 'hustingslaw19.SpoolLines', WHERE WHAT IT READS IS OF BULK AT MOST 1048576: true; the input reads as it did. -/
def spoolLinesUptoRow : OpenClaim := { program := "ytboelmakccaenaa", sum := "87428af71d34e5f27868b452ccf648aa7cc5979bb9f99e9e68ffb652cffb0eab", func := "hustings/hustingslaw19.SpoolLines", spec := "spoolLines", inPlace := ["internal/bytealg.IndexByteString"], unfollowed := true, recurses := true, apart := false, narrowed := true }
def SpoolLinesUptoSaid : Prop := spoolLinesUptoRow.holds Try.pinned (OpenSpec.upto spoolLinesSpec)

/-- 'hustingslaw19.SpoolParts', WHERE WHAT IT READS IS OF BULK AT MOST 1048576: true; the input reads as it did. -/
def spoolPartsUptoRow : OpenClaim := { program := "ytboelmakccaenaa", sum := "87428af71d34e5f27868b452ccf648aa7cc5979bb9f99e9e68ffb652cffb0eab", func := "hustings/hustingslaw19.SpoolParts", spec := "spoolParts", inPlace := ["internal/bytealg.IndexByteString"], unfollowed := true, recurses := true, apart := false, narrowed := true }
def SpoolPartsUptoSaid : Prop := spoolPartsUptoRow.holds Try.pinned (OpenSpec.upto spoolPartsSpec)

/-- 'hustingslaw19.SpoolLoses', WHERE WHAT IT READS IS OF BULK AT MOST 1048576: true; the input reads as it did. -/
def spoolLosesUptoRow : OpenClaim := { program := "ytboelmakccaenaa", sum := "87428af71d34e5f27868b452ccf648aa7cc5979bb9f99e9e68ffb652cffb0eab", func := "hustings/hustingslaw19.SpoolLoses", spec := "spoolLoses", inPlace := ["internal/bytealg.IndexByteString"], unfollowed := true, recurses := true, apart := false, narrowed := true }
def SpoolLosesUptoSaid : Prop := spoolLosesUptoRow.holds Try.pinned (OpenSpec.upto spoolLosesSpec)

/-- 'hustingslaw19.SpoolDoes', WHERE WHAT IT READS IS OF BULK AT MOST 1048576: true; the input reads as it did. -/
def spoolDoesUptoRow : OpenClaim := { program := "ytboelmakccaenaa", sum := "87428af71d34e5f27868b452ccf648aa7cc5979bb9f99e9e68ffb652cffb0eab", func := "hustings/hustingslaw19.SpoolDoes", spec := "spoolDoes", inPlace := ["internal/bytealg.IndexByteString"], unfollowed := true, recurses := true, apart := false, narrowed := true }
def SpoolDoesUptoSaid : Prop := spoolDoesUptoRow.holds Try.pinned (OpenSpec.upto spoolDoesSpec)

/-- 'hustingslaw10.IdentUsers', WHERE WHAT IT READS IS OF BULK AT MOST 1048576: true; the input reads as it did. -/
def identUsersUptoRow : OpenClaim := { program := "ytboelmakccaenaa", sum := "87428af71d34e5f27868b452ccf648aa7cc5979bb9f99e9e68ffb652cffb0eab", func := "hustings/hustingslaw10.IdentUsers", spec := "identUsers", inPlace := ["internal/bytealg.IndexByteString", "internal/bytealg.IndexString"], unfollowed := true, recurses := true, named := ["internal/bytealg.MaxLen"], apart := false, narrowed := true }
def IdentUsersUptoSaid : Prop := identUsersUptoRow.holds Try.pinned (OpenSpec.upto identUsersSpec)

/-- 'hustingslaw10.IdentDomains', WHERE WHAT IT READS IS OF BULK AT MOST 1048576: true; the input reads as it did. -/
def identDomainsUptoRow : OpenClaim := { program := "ytboelmakccaenaa", sum := "87428af71d34e5f27868b452ccf648aa7cc5979bb9f99e9e68ffb652cffb0eab", func := "hustings/hustingslaw10.IdentDomains", spec := "identDomains", inPlace := ["internal/bytealg.IndexByteString", "internal/bytealg.IndexString"], unfollowed := true, recurses := true, named := ["internal/bytealg.MaxLen"], apart := false, narrowed := true }
def IdentDomainsUptoSaid : Prop := identDomainsUptoRow.holds Try.pinned (OpenSpec.upto identDomainsSpec)

end Rows
end Go.Proofs.Ytboelmakccaenaa
