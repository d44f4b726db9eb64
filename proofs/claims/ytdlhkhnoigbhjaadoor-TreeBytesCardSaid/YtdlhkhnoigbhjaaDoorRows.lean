/-
  NARROWER THAN 'FOR EVERY INPUT', by the rows' own cells (each row's printed sentence says how): TreeSizes: laid · TreeValid: laid · TreeOrder: laid · TreePlaces: laid · TreeFound: laid · TreeBytes: laid · TreeRound: laid.
  DERIVED. THE GIVEN ROWS OF THIS SEAT. 7 by the template 'for every input the law returns true; each argument reads behind the call as it read before'; 0 by the template 'total and deterministic' (their statements: YtdlhkhnoigbhjaaDoorTotals.lean).
  GIVEN WITH THE SEED: the statements are not yours to turn. If you find one false, say at which input.
  Laid BY PROGRAM, IN A SANDBOX (cutbox-rows.mjs): the forced cells as the released guide's own fill.sh prints them over the translation 79363cf624bfcfaa… (all of the seat's roots in one cut). By AI agents, Wed Nov 11 2026. No macro, syntax, notation, axiom, sorry.
-/
import Derived.Test.YtdlhkhnoigbhjaaDoorChecked
import GoSem.Claim
import GoSem.ClaimJoined
import GoSem.ClaimMapViews
import Derived.JoinedTies
import Derived.KernelRfl
namespace Go.Proofs.YtdlhkhnoigbhjaaDoor
/- THE CELL 'sum', in the pinned program and in every row, IS THE sha256 OF THE DUMP (.gsa) THAT YtdlhkhnoigbhjaaDoorProg.lean LOADS. Nothing in Lean hashes anything: it is a label: what it is worth is what the hold of that sum in a sandbox is worth. -/
noncomputable def Tryd.pinned : Pinned := { name := "ytdlhkhnoigbhjaadoor", sum := "79363cf624bfcfaa0878c849bca2ce8ca0e3e937c8be73f48188b100f86c1af8", checked := Tryd.checked }
namespace Rows
def none {H : Type} : Left H := { results := [], args := [] }

/- WHAT THE LISTED PACKAGE-LEVEL VARIABLES READ AS WHEN THE CALL BEGINS. Each datum BY PROGRAM (the guide's laid-datum.mjs) off the statement by which the dump's own 'gosem.cut.vars' lays the variable. In a bare row this is a premise. The card (YtdlhkhnoigbhjaaDoorCards.lean) ties it to the program's text. -/
def laid_scoria_tree_shapes {H : Type} : DataW H := .agg [.agg [.lit (.int .i64 3), .lit (.int .i64 0), .lit (.int .i64 0), .lit (.int .i64 0), .nil, .lit (.int .i64 0), .lit (.int .i64 0), .lit (.int .i64 0)], .agg [.lit (.int .i64 3), .lit (.int .i64 0), .lit (.int .i64 0), .lit (.int .i64 0), .nil, .lit (.int .i64 0), .lit (.int .i64 0), .lit (.int .i64 0)], .agg [.lit (.int .i64 2), .lit (.int .i64 1), .lit (.int .i64 4), .lit (.int .i64 0), .nil, .lit (.int .i64 0), .lit (.int .i64 0), .lit (.int .i64 0)], .agg [.lit (.int .i64 2), .lit (.int .i64 0), .lit (.int .i64 0), .lit (.int .i64 0), .nil, .lit (.int .i64 3), .lit (.int .i64 1), .lit (.int .i64 3)], .agg [.lit (.int .i64 4), .lit (.int .i64 (-8)), .lit (.int .i64 7), .lit (.int .i64 0), .nil, .lit (.int .i64 0), .lit (.int .i64 0), .lit (.int .i64 0)], .agg [.lit (.int .i64 4), .lit (.int .i64 0), .lit (.int .i64 1), .lit (.int .i64 0), .nil, .lit (.int .i64 0), .lit (.int .i64 0), .lit (.int .i64 0)], .agg [.lit (.int .i64 4), .lit (.int .i64 0), .lit (.int .i64 5), .lit (.int .i64 0), .nil, .lit (.int .i64 0), .lit (.int .i64 0), .lit (.int .i64 0)], .agg [.lit (.int .i64 4), .lit (.int .i64 0), .lit (.int .i64 5), .lit (.int .i64 0), .slice [.lit (.int .i64 4)] [], .lit (.int .i64 0), .lit (.int .i64 0), .lit (.int .i64 0)], .agg [.lit (.int .i64 4), .lit (.int .i64 0), .lit (.int .i64 5), .lit (.int .i64 2), .nil, .lit (.int .i64 0), .lit (.int .i64 0), .lit (.int .i64 0)], .agg [.lit (.int .i64 4), .lit (.int .i64 0), .lit (.int .i64 13), .lit (.int .i64 0), .slice [.lit (.int .i64 4), .lit (.int .i64 4)] [], .lit (.int .i64 0), .lit (.int .i64 0), .lit (.int .i64 0)], .agg [.lit (.int .i64 4), .lit (.int .i64 0), .lit (.int .i64 0), .lit (.int .i64 0), .slice [.lit (.int .i64 4)] [], .lit (.int .i64 0), .lit (.int .i64 0), .lit (.int .i64 0)], .agg [.lit (.int .i64 4), .lit (.int .i64 0), .lit (.int .i64 5), .lit (.int .i64 0), .nil, .lit (.int .i64 3), .lit (.int .i64 0), .lit (.int .i64 4)], .agg [.lit (.int .i64 4), .lit (.int .i64 0), .lit (.int .i64 2), .lit (.int .i64 0), .nil, .lit (.int .i64 0), .lit (.int .i64 0), .lit (.int .i64 0)], .agg [.lit (.int .i64 6), .lit (.int .i64 0), .lit (.int .i64 0), .lit (.int .i64 0), .nil, .lit (.int .i64 8), .lit (.int .i64 0), .lit (.int .i64 5)], .agg [.lit (.int .i64 5), .lit (.int .i64 0), .lit (.int .i64 5), .lit (.int .i64 0), .slice [.lit (.int .i64 4)] [], .lit (.int .i64 0), .lit (.int .i64 0), .lit (.int .i64 0)], .agg [.lit (.int .i64 5), .lit (.int .i64 0), .lit (.int .i64 5), .lit (.int .i64 0), .slice [.lit (.int .i64 4), .lit (.int .i64 4)] [], .lit (.int .i64 0), .lit (.int .i64 0), .lit (.int .i64 0)], .agg [.lit (.int .i64 5), .lit (.int .i64 0), .lit (.int .i64 5), .lit (.int .i64 2), .slice [.lit (.int .i64 4)] [], .lit (.int .i64 0), .lit (.int .i64 0), .lit (.int .i64 0)], .agg [.lit (.int .i64 5), .lit (.int .i64 0), .lit (.int .i64 0), .lit (.int .i64 0), .slice [.lit (.int .i64 4), .lit (.int .i64 6), .lit (.int .i64 6)] [], .lit (.int .i64 0), .lit (.int .i64 0), .lit (.int .i64 0)], .agg [.lit (.int .i64 5), .lit (.int .i64 0), .lit (.int .i64 0), .lit (.int .i64 0), .slice [.lit (.int .i64 4), .lit (.int .i64 6)] [], .lit (.int .i64 0), .lit (.int .i64 0), .lit (.int .i64 0)], .agg [.lit (.int .i64 5), .lit (.int .i64 0), .lit (.int .i64 0), .lit (.int .i64 0), .slice [.lit (.int .i64 4)] [], .lit (.int .i64 0), .lit (.int .i64 0), .lit (.int .i64 0)], .agg [.lit (.int .i64 5), .lit (.int .i64 0), .lit (.int .i64 0), .lit (.int .i64 0), .slice [.lit (.int .i64 4)] [], .lit (.int .i64 0), .lit (.int .i64 0), .lit (.int .i64 0)], .agg [.lit (.int .i64 5), .lit (.int .i64 0), .lit (.int .i64 5), .lit (.int .i64 0), .slice [.lit (.int .i64 6), .lit (.int .i64 6)] [], .lit (.int .i64 0), .lit (.int .i64 0), .lit (.int .i64 0)], .agg [.lit (.int .i64 5), .lit (.int .i64 0), .lit (.int .i64 2), .lit (.int .i64 0), .slice [.lit (.int .i64 4)] [], .lit (.int .i64 0), .lit (.int .i64 0), .lit (.int .i64 0)], .agg [.lit (.int .i64 5), .lit (.int .i64 0), .lit (.int .i64 5), .lit (.int .i64 0), .nil, .lit (.int .i64 3), .lit (.int .i64 0), .lit (.int .i64 4)], .agg [.lit (.int .i64 5), .lit (.int .i64 0), .lit (.int .i64 0), .lit (.int .i64 0), .slice [.lit (.int .i64 4)] [], .lit (.int .i64 0), .lit (.int .i64 0), .lit (.int .i64 0)], .agg [.lit (.int .i64 5), .lit (.int .i64 0), .lit (.int .i64 0), .lit (.int .i64 0), .nil, .lit (.int .i64 0), .lit (.int .i64 0), .lit (.int .i64 0)], .agg [.lit (.int .i64 1), .lit (.int .i64 0), .lit (.int .i64 3), .lit (.int .i64 0), .nil, .lit (.int .i64 0), .lit (.int .i64 0), .lit (.int .i64 0)], .agg [.lit (.int .i64 0), .lit (.int .i64 0), .lit (.int .i64 3), .lit (.int .i64 0), .nil, .lit (.int .i64 6), .lit (.int .i64 1), .lit (.int .i64 1)]]
def laid_scoria_scoriaref02_constants {H : Type} : DataW H := .agg [.lit (.int .u32 1116352408), .lit (.int .u32 1899447441), .lit (.int .u32 3049323471), .lit (.int .u32 3921009573), .lit (.int .u32 961987163), .lit (.int .u32 1508970993), .lit (.int .u32 2453635748), .lit (.int .u32 2870763221), .lit (.int .u32 3624381080), .lit (.int .u32 310598401), .lit (.int .u32 607225278), .lit (.int .u32 1426881987), .lit (.int .u32 1925078388), .lit (.int .u32 2162078206), .lit (.int .u32 2614888103), .lit (.int .u32 3248222580), .lit (.int .u32 3835390401), .lit (.int .u32 4022224774), .lit (.int .u32 264347078), .lit (.int .u32 604807628), .lit (.int .u32 770255983), .lit (.int .u32 1249150122), .lit (.int .u32 1555081692), .lit (.int .u32 1996064986), .lit (.int .u32 2554220882), .lit (.int .u32 2821834349), .lit (.int .u32 2952996808), .lit (.int .u32 3210313671), .lit (.int .u32 3336571891), .lit (.int .u32 3584528711), .lit (.int .u32 113926993), .lit (.int .u32 338241895), .lit (.int .u32 666307205), .lit (.int .u32 773529912), .lit (.int .u32 1294757372), .lit (.int .u32 1396182291), .lit (.int .u32 1695183700), .lit (.int .u32 1986661051), .lit (.int .u32 2177026350), .lit (.int .u32 2456956037), .lit (.int .u32 2730485921), .lit (.int .u32 2820302411), .lit (.int .u32 3259730800), .lit (.int .u32 3345764771), .lit (.int .u32 3516065817), .lit (.int .u32 3600352804), .lit (.int .u32 4094571909), .lit (.int .u32 275423344), .lit (.int .u32 430227734), .lit (.int .u32 506948616), .lit (.int .u32 659060556), .lit (.int .u32 883997877), .lit (.int .u32 958139571), .lit (.int .u32 1322822218), .lit (.int .u32 1537002063), .lit (.int .u32 1747873779), .lit (.int .u32 1955562222), .lit (.int .u32 2024104815), .lit (.int .u32 2227730452), .lit (.int .u32 2361852424), .lit (.int .u32 2428436474), .lit (.int .u32 2756734187), .lit (.int .u32 3204031479), .lit (.int .u32 3329325298)]
def laid_scoria_hash_constants {H : Type} : DataW H := .agg [.lit (.int .u32 1116352408), .lit (.int .u32 1899447441), .lit (.int .u32 3049323471), .lit (.int .u32 3921009573), .lit (.int .u32 961987163), .lit (.int .u32 1508970993), .lit (.int .u32 2453635748), .lit (.int .u32 2870763221), .lit (.int .u32 3624381080), .lit (.int .u32 310598401), .lit (.int .u32 607225278), .lit (.int .u32 1426881987), .lit (.int .u32 1925078388), .lit (.int .u32 2162078206), .lit (.int .u32 2614888103), .lit (.int .u32 3248222580), .lit (.int .u32 3835390401), .lit (.int .u32 4022224774), .lit (.int .u32 264347078), .lit (.int .u32 604807628), .lit (.int .u32 770255983), .lit (.int .u32 1249150122), .lit (.int .u32 1555081692), .lit (.int .u32 1996064986), .lit (.int .u32 2554220882), .lit (.int .u32 2821834349), .lit (.int .u32 2952996808), .lit (.int .u32 3210313671), .lit (.int .u32 3336571891), .lit (.int .u32 3584528711), .lit (.int .u32 113926993), .lit (.int .u32 338241895), .lit (.int .u32 666307205), .lit (.int .u32 773529912), .lit (.int .u32 1294757372), .lit (.int .u32 1396182291), .lit (.int .u32 1695183700), .lit (.int .u32 1986661051), .lit (.int .u32 2177026350), .lit (.int .u32 2456956037), .lit (.int .u32 2730485921), .lit (.int .u32 2820302411), .lit (.int .u32 3259730800), .lit (.int .u32 3345764771), .lit (.int .u32 3516065817), .lit (.int .u32 3600352804), .lit (.int .u32 4094571909), .lit (.int .u32 275423344), .lit (.int .u32 430227734), .lit (.int .u32 506948616), .lit (.int .u32 659060556), .lit (.int .u32 883997877), .lit (.int .u32 958139571), .lit (.int .u32 1322822218), .lit (.int .u32 1537002063), .lit (.int .u32 1747873779), .lit (.int .u32 1955562222), .lit (.int .u32 2024104815), .lit (.int .u32 2227730452), .lit (.int .u32 2361852424), .lit (.int .u32 2428436474), .lit (.int .u32 2756734187), .lit (.int .u32 3204031479), .lit (.int .u32 3329325298)]

/-- 'scorialaw05.TreeSizes': WHATEVER THE INPUT: true; the input reads as it did. -/
def treeSizesSpec : ChangeSpec := { name := "treeSizes", fn := fun _ => fun
  | [d1, d2, d3, d4, d5] => { results := [.lit (.bool true)], args := [d1, d2, d3, d4, d5] }
  | _ => none }
def treeSizesRow : OpenClaim := { program := "ytdlhkhnoigbhjaadoor", sum := "79363cf624bfcfaa0878c849bca2ce8ca0e3e937c8be73f48188b100f86c1af8", func := "scoria/scorialaw05.TreeSizes", spec := "treeSizes", unfollowed := true, recurses := true, named := ["scoria/tree.shapes"], apart := false, laid := [("scoria/tree.shapes", laid_scoria_tree_shapes)] }
def TreeSizesSaid : Prop := treeSizesRow.holds Tryd.pinned (OpenSpec.ofChange treeSizesSpec)

/-- ITS FALSE NEIGHBOUR: 'it returns false'. Refute it at one input. -/
def treeSizesWrong : ChangeSpec := { name := "treeSizes", fn := fun _ => fun
  | [d1, d2, d3, d4, d5] => { results := [.lit (.bool false)], args := [d1, d2, d3, d4, d5] }
  | _ => none }
def TreeSizesWrongFalsely : Prop := treeSizesRow.holds Tryd.pinned (OpenSpec.ofChange treeSizesWrong)

/-- 'scorialaw05.TreeValid': WHATEVER THE INPUT: true; the input reads as it did. -/
def treeValidSpec : ChangeSpec := { name := "treeValid", fn := fun _ => fun
  | [d1, d2, d3, d4, d5] => { results := [.lit (.bool true)], args := [d1, d2, d3, d4, d5] }
  | _ => none }
def treeValidRow : OpenClaim := { program := "ytdlhkhnoigbhjaadoor", sum := "79363cf624bfcfaa0878c849bca2ce8ca0e3e937c8be73f48188b100f86c1af8", func := "scoria/scorialaw05.TreeValid", spec := "treeValid", unfollowed := true, recurses := true, named := ["scoria/tree.shapes"], apart := false, laid := [("scoria/tree.shapes", laid_scoria_tree_shapes)] }
def TreeValidSaid : Prop := treeValidRow.holds Tryd.pinned (OpenSpec.ofChange treeValidSpec)

/-- ITS FALSE NEIGHBOUR: 'it returns false'. Refute it at one input. -/
def treeValidWrong : ChangeSpec := { name := "treeValid", fn := fun _ => fun
  | [d1, d2, d3, d4, d5] => { results := [.lit (.bool false)], args := [d1, d2, d3, d4, d5] }
  | _ => none }
def TreeValidWrongFalsely : Prop := treeValidRow.holds Tryd.pinned (OpenSpec.ofChange treeValidWrong)

/-- 'scorialaw05.TreeOrder': WHATEVER THE INPUT: true; the input reads as it did. -/
def treeOrderSpec : ChangeSpec := { name := "treeOrder", fn := fun _ => fun
  | [d1, d2, d3, d4, d5] => { results := [.lit (.bool true)], args := [d1, d2, d3, d4, d5] }
  | _ => none }
def treeOrderRow : OpenClaim := { program := "ytdlhkhnoigbhjaadoor", sum := "79363cf624bfcfaa0878c849bca2ce8ca0e3e937c8be73f48188b100f86c1af8", func := "scoria/scorialaw05.TreeOrder", spec := "treeOrder", unfollowed := true, recurses := true, named := ["scoria/tree.shapes"], apart := false, laid := [("scoria/tree.shapes", laid_scoria_tree_shapes)] }
def TreeOrderSaid : Prop := treeOrderRow.holds Tryd.pinned (OpenSpec.ofChange treeOrderSpec)

/-- ITS FALSE NEIGHBOUR: 'it returns false'. Refute it at one input. -/
def treeOrderWrong : ChangeSpec := { name := "treeOrder", fn := fun _ => fun
  | [d1, d2, d3, d4, d5] => { results := [.lit (.bool false)], args := [d1, d2, d3, d4, d5] }
  | _ => none }
def TreeOrderWrongFalsely : Prop := treeOrderRow.holds Tryd.pinned (OpenSpec.ofChange treeOrderWrong)

/-- 'scorialaw05.TreePlaces': WHATEVER THE INPUT: true; the input reads as it did. -/
def treePlacesSpec : ChangeSpec := { name := "treePlaces", fn := fun _ => fun
  | [d1, d2, d3, d4] => { results := [.lit (.bool true)], args := [d1, d2, d3, d4] }
  | _ => none }
def treePlacesRow : OpenClaim := { program := "ytdlhkhnoigbhjaadoor", sum := "79363cf624bfcfaa0878c849bca2ce8ca0e3e937c8be73f48188b100f86c1af8", func := "scoria/scorialaw05.TreePlaces", spec := "treePlaces", unfollowed := true, recurses := true, named := ["scoria/tree.shapes"], apart := false, laid := [("scoria/tree.shapes", laid_scoria_tree_shapes)] }
def TreePlacesSaid : Prop := treePlacesRow.holds Tryd.pinned (OpenSpec.ofChange treePlacesSpec)

/-- ITS FALSE NEIGHBOUR: 'it returns false'. Refute it at one input. -/
def treePlacesWrong : ChangeSpec := { name := "treePlaces", fn := fun _ => fun
  | [d1, d2, d3, d4] => { results := [.lit (.bool false)], args := [d1, d2, d3, d4] }
  | _ => none }
def TreePlacesWrongFalsely : Prop := treePlacesRow.holds Tryd.pinned (OpenSpec.ofChange treePlacesWrong)

/-- 'scorialaw05.TreeFound': WHATEVER THE INPUT: true; the input reads as it did. -/
def treeFoundSpec : ChangeSpec := { name := "treeFound", fn := fun _ => fun
  | [d1, d2, d3] => { results := [.lit (.bool true)], args := [d1, d2, d3] }
  | _ => none }
def treeFoundRow : OpenClaim := { program := "ytdlhkhnoigbhjaadoor", sum := "79363cf624bfcfaa0878c849bca2ce8ca0e3e937c8be73f48188b100f86c1af8", func := "scoria/scorialaw05.TreeFound", spec := "treeFound", unfollowed := true, recurses := true, named := ["scoria/tree.shapes"], apart := false, laid := [("scoria/tree.shapes", laid_scoria_tree_shapes)] }
def TreeFoundSaid : Prop := treeFoundRow.holds Tryd.pinned (OpenSpec.ofChange treeFoundSpec)

/-- ITS FALSE NEIGHBOUR: 'it returns false'. Refute it at one input. -/
def treeFoundWrong : ChangeSpec := { name := "treeFound", fn := fun _ => fun
  | [d1, d2, d3] => { results := [.lit (.bool false)], args := [d1, d2, d3] }
  | _ => none }
def TreeFoundWrongFalsely : Prop := treeFoundRow.holds Tryd.pinned (OpenSpec.ofChange treeFoundWrong)

/-- 'scorialaw05.TreeBytes': WHATEVER THE INPUT: true; the input reads as it did. -/
def treeBytesSpec : ChangeSpec := { name := "treeBytes", fn := fun _ => fun
  | [d1, d2, d3, d4, d5] => { results := [.lit (.bool true)], args := [d1, d2, d3, d4, d5] }
  | _ => none }
def treeBytesRow : OpenClaim := { program := "ytdlhkhnoigbhjaadoor", sum := "79363cf624bfcfaa0878c849bca2ce8ca0e3e937c8be73f48188b100f86c1af8", func := "scoria/scorialaw05.TreeBytes", spec := "treeBytes", unfollowed := true, recurses := true, named := ["scoria/hash.constants", "scoria/scoriaref02.constants", "scoria/tree.shapes"], apart := false, laid := [("scoria/scoriaref02.constants", laid_scoria_scoriaref02_constants), ("scoria/hash.constants", laid_scoria_hash_constants), ("scoria/tree.shapes", laid_scoria_tree_shapes)] }
def TreeBytesSaid : Prop := treeBytesRow.holds Tryd.pinned (OpenSpec.ofChange treeBytesSpec)

/-- ITS FALSE NEIGHBOUR: 'it returns false'. Refute it at one input. -/
def treeBytesWrong : ChangeSpec := { name := "treeBytes", fn := fun _ => fun
  | [d1, d2, d3, d4, d5] => { results := [.lit (.bool false)], args := [d1, d2, d3, d4, d5] }
  | _ => none }
def TreeBytesWrongFalsely : Prop := treeBytesRow.holds Tryd.pinned (OpenSpec.ofChange treeBytesWrong)

/-- 'scorialaw05.TreeRound': WHATEVER THE INPUT: true; the input reads as it did. -/
def treeRoundSpec : ChangeSpec := { name := "treeRound", fn := fun _ => fun
  | [d1, d2, d3, d4] => { results := [.lit (.bool true)], args := [d1, d2, d3, d4] }
  | _ => none }
def treeRoundRow : OpenClaim := { program := "ytdlhkhnoigbhjaadoor", sum := "79363cf624bfcfaa0878c849bca2ce8ca0e3e937c8be73f48188b100f86c1af8", func := "scoria/scorialaw05.TreeRound", spec := "treeRound", unfollowed := true, recurses := true, named := ["scoria/hash.constants", "scoria/tree.shapes"], apart := false, laid := [("scoria/hash.constants", laid_scoria_hash_constants), ("scoria/tree.shapes", laid_scoria_tree_shapes)] }
def TreeRoundSaid : Prop := treeRoundRow.holds Tryd.pinned (OpenSpec.ofChange treeRoundSpec)

/-- ITS FALSE NEIGHBOUR: 'it returns false'. Refute it at one input. -/
def treeRoundWrong : ChangeSpec := { name := "treeRound", fn := fun _ => fun
  | [d1, d2, d3, d4] => { results := [.lit (.bool false)], args := [d1, d2, d3, d4] }
  | _ => none }
def TreeRoundWrongFalsely : Prop := treeRoundRow.holds Tryd.pinned (OpenSpec.ofChange treeRoundWrong)

/- THE SECOND FORM. 'bulk': how many values and letters a reading holds, each counted each time it is reached (what is shared counts as often as it is met; a slice's spare places count too). A statement '..UptoSaid' is the law's where the arguments, and the package variables that the reading takes, are together of bulk at most 1048576: NARROWER than '..Said'. Prove '..Said' where nothing that the law and all that it calls make is longer than what came in: it says more and counts as full. Else prove '..UptoSaid'. A law counts once. -/
mutual
def uptoBulk {H : Type} : DataW H → Nat
  | .lit (.string bytes) => bytes.length + 1
  | .lit _ => 1
  | .nil => 1
  | .ptr d => uptoBulk d + 1
  | .slice elems spare => uptoBulkAll elems + uptoBulkAll spare + 1
  | .agg parts => uptoBulkAll parts + 1
  | .iface _ d => uptoBulk d + 1
  | .map entries => uptoBulkEntries entries + 1
  | .held _ => 1
def uptoBulkAll {H : Type} : List (DataW H) → Nat
  | [] => 0
  | d :: r => uptoBulk d + uptoBulkAll r
def uptoBulkEntries {H : Type} : List (Lit × DataW H) → Nat
  | [] => 0
  | x :: r => uptoBulkEntry x + uptoBulkEntries r
def uptoBulkEntry {H : Type} : Lit × DataW H → Nat
  | (.string bytes, d) => bytes.length + uptoBulk d + 1
  | (_, d) => uptoBulk d + 1
 end
def uptoSmall : (H : Type) → List (DataW H) → Bool := fun _ ds => decide (uptoBulkAll ds ≤ 1048576)
def OpenSpec.upto (s : _root_.Go.ChangeSpec) : _root_.Go.OpenSpec := { _root_.Go.OpenSpec.ofChange s with cond := some uptoSmall }

/-- 'scorialaw05.TreeSizes', WHERE WHAT IT READS IS OF BULK AT MOST 1048576: true; the input reads as it did. -/
def treeSizesUptoRow : OpenClaim := { program := "ytdlhkhnoigbhjaadoor", sum := "79363cf624bfcfaa0878c849bca2ce8ca0e3e937c8be73f48188b100f86c1af8", func := "scoria/scorialaw05.TreeSizes", spec := "treeSizes", unfollowed := true, recurses := true, named := ["scoria/tree.shapes"], apart := false, laid := [("scoria/tree.shapes", laid_scoria_tree_shapes)], narrowed := true }
def TreeSizesUptoSaid : Prop := treeSizesUptoRow.holds Tryd.pinned (OpenSpec.upto treeSizesSpec)

/-- 'scorialaw05.TreeValid', WHERE WHAT IT READS IS OF BULK AT MOST 1048576: true; the input reads as it did. -/
def treeValidUptoRow : OpenClaim := { program := "ytdlhkhnoigbhjaadoor", sum := "79363cf624bfcfaa0878c849bca2ce8ca0e3e937c8be73f48188b100f86c1af8", func := "scoria/scorialaw05.TreeValid", spec := "treeValid", unfollowed := true, recurses := true, named := ["scoria/tree.shapes"], apart := false, laid := [("scoria/tree.shapes", laid_scoria_tree_shapes)], narrowed := true }
def TreeValidUptoSaid : Prop := treeValidUptoRow.holds Tryd.pinned (OpenSpec.upto treeValidSpec)

/-- 'scorialaw05.TreeOrder', WHERE WHAT IT READS IS OF BULK AT MOST 1048576: true; the input reads as it did. -/
def treeOrderUptoRow : OpenClaim := { program := "ytdlhkhnoigbhjaadoor", sum := "79363cf624bfcfaa0878c849bca2ce8ca0e3e937c8be73f48188b100f86c1af8", func := "scoria/scorialaw05.TreeOrder", spec := "treeOrder", unfollowed := true, recurses := true, named := ["scoria/tree.shapes"], apart := false, laid := [("scoria/tree.shapes", laid_scoria_tree_shapes)], narrowed := true }
def TreeOrderUptoSaid : Prop := treeOrderUptoRow.holds Tryd.pinned (OpenSpec.upto treeOrderSpec)

/-- 'scorialaw05.TreePlaces', WHERE WHAT IT READS IS OF BULK AT MOST 1048576: true; the input reads as it did. -/
def treePlacesUptoRow : OpenClaim := { program := "ytdlhkhnoigbhjaadoor", sum := "79363cf624bfcfaa0878c849bca2ce8ca0e3e937c8be73f48188b100f86c1af8", func := "scoria/scorialaw05.TreePlaces", spec := "treePlaces", unfollowed := true, recurses := true, named := ["scoria/tree.shapes"], apart := false, laid := [("scoria/tree.shapes", laid_scoria_tree_shapes)], narrowed := true }
def TreePlacesUptoSaid : Prop := treePlacesUptoRow.holds Tryd.pinned (OpenSpec.upto treePlacesSpec)

/-- 'scorialaw05.TreeFound', WHERE WHAT IT READS IS OF BULK AT MOST 1048576: true; the input reads as it did. -/
def treeFoundUptoRow : OpenClaim := { program := "ytdlhkhnoigbhjaadoor", sum := "79363cf624bfcfaa0878c849bca2ce8ca0e3e937c8be73f48188b100f86c1af8", func := "scoria/scorialaw05.TreeFound", spec := "treeFound", unfollowed := true, recurses := true, named := ["scoria/tree.shapes"], apart := false, laid := [("scoria/tree.shapes", laid_scoria_tree_shapes)], narrowed := true }
def TreeFoundUptoSaid : Prop := treeFoundUptoRow.holds Tryd.pinned (OpenSpec.upto treeFoundSpec)

/-- 'scorialaw05.TreeBytes', WHERE WHAT IT READS IS OF BULK AT MOST 1048576: true; the input reads as it did. -/
def treeBytesUptoRow : OpenClaim := { program := "ytdlhkhnoigbhjaadoor", sum := "79363cf624bfcfaa0878c849bca2ce8ca0e3e937c8be73f48188b100f86c1af8", func := "scoria/scorialaw05.TreeBytes", spec := "treeBytes", unfollowed := true, recurses := true, named := ["scoria/hash.constants", "scoria/scoriaref02.constants", "scoria/tree.shapes"], apart := false, laid := [("scoria/scoriaref02.constants", laid_scoria_scoriaref02_constants), ("scoria/hash.constants", laid_scoria_hash_constants), ("scoria/tree.shapes", laid_scoria_tree_shapes)], narrowed := true }
def TreeBytesUptoSaid : Prop := treeBytesUptoRow.holds Tryd.pinned (OpenSpec.upto treeBytesSpec)

/-- 'scorialaw05.TreeRound', WHERE WHAT IT READS IS OF BULK AT MOST 1048576: true; the input reads as it did. -/
def treeRoundUptoRow : OpenClaim := { program := "ytdlhkhnoigbhjaadoor", sum := "79363cf624bfcfaa0878c849bca2ce8ca0e3e937c8be73f48188b100f86c1af8", func := "scoria/scorialaw05.TreeRound", spec := "treeRound", unfollowed := true, recurses := true, named := ["scoria/hash.constants", "scoria/tree.shapes"], apart := false, laid := [("scoria/hash.constants", laid_scoria_hash_constants), ("scoria/tree.shapes", laid_scoria_tree_shapes)], narrowed := true }
def TreeRoundUptoSaid : Prop := treeRoundUptoRow.holds Tryd.pinned (OpenSpec.upto treeRoundSpec)

end Rows
end Go.Proofs.YtdlhkhnoigbhjaaDoor
