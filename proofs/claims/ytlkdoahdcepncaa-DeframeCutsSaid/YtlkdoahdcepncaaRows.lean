/-
  No cell of these rows narrows 'for every input' (looked for: loops, veiled, ifaces, maps, wideKeys, modest, calm, conditions, laid).
  DERIVED. THE GIVEN ROWS OF THIS SEAT. 14 by the template 'for every input the law returns true; each argument reads behind the call as it read before'; 0 by the template 'total and deterministic' (their statements: YtlkdoahdcepncaaTotals.lean).
  GIVEN WITH THE SEED: the statements are not yours to turn. If you find one false, say at which input.
  Laid BY PROGRAM, IN A SANDBOX (cutbox-rows.mjs): the forced cells as the released guide's own fill.sh prints them over the translation 0f57e6ebdbc33c48… (all of the seat's roots in one cut). By AI agents, Wed Nov 11 2026. No macro, syntax, notation, axiom, sorry.
-/
import Derived.Test.YtlkdoahdcepncaaChecked
import GoSem.Claim
import GoSem.ClaimJoined
import GoSem.ClaimMapViews
import Derived.JoinedTies
import Derived.KernelRfl
namespace Go.Proofs.Ytlkdoahdcepncaa
/- THE CELL 'sum', in the pinned program and in every row, IS THE sha256 OF THE DUMP (.gsa) THAT YtlkdoahdcepncaaProg.lean LOADS. Nothing in Lean hashes anything: it is a label: what it is worth is what the hold of that sum in a sandbox is worth. -/
noncomputable def Try.pinned : Pinned := { name := "ytlkdoahdcepncaa", sum := "0f57e6ebdbc33c48d2a263638ab4418cd9cf7c0beb6f4f9647be6bb1df0413b4", checked := Try.checked }
namespace Rows
def none {H : Type} : Left H := { results := [], args := [] }

/-- 'postmarklaw01.CursorTakes': WHATEVER THE INPUT: true; the input reads as it did. -/
def cursorTakesSpec : ChangeSpec := { name := "cursorTakes", fn := fun _ => fun
  | [d1, d2] => { results := [.lit (.bool true)], args := [d1, d2] }
  | _ => none }
def cursorTakesRow : OpenClaim := { program := "ytlkdoahdcepncaa", sum := "0f57e6ebdbc33c48d2a263638ab4418cd9cf7c0beb6f4f9647be6bb1df0413b4", func := "postmark/postmarklaw01.CursorTakes", spec := "cursorTakes", apart := false }
def CursorTakesSaid : Prop := cursorTakesRow.holds Try.pinned (OpenSpec.ofChange cursorTakesSpec)

/-- ITS FALSE NEIGHBOUR: 'it returns false'. Refute it at one input. -/
def cursorTakesWrong : ChangeSpec := { name := "cursorTakes", fn := fun _ => fun
  | [d1, d2] => { results := [.lit (.bool false)], args := [d1, d2] }
  | _ => none }
def CursorTakesWrongFalsely : Prop := cursorTakesRow.holds Try.pinned (OpenSpec.ofChange cursorTakesWrong)

/-- 'postmarklaw01.CursorNone': WHATEVER THE INPUT: true; the input reads as it did. -/
def cursorNoneSpec : ChangeSpec := { name := "cursorNone", fn := fun _ => fun
  | [] => { results := [.lit (.bool true)], args := [] }
  | _ => none }
def cursorNoneRow : OpenClaim := { program := "ytlkdoahdcepncaa", sum := "0f57e6ebdbc33c48d2a263638ab4418cd9cf7c0beb6f4f9647be6bb1df0413b4", func := "postmark/postmarklaw01.CursorNone", spec := "cursorNone", apart := false }
def CursorNoneSaid : Prop := cursorNoneRow.holds Try.pinned (OpenSpec.ofChange cursorNoneSpec)

/-- ITS FALSE NEIGHBOUR: 'it returns false'. Refute it at one input. -/
def cursorNoneWrong : ChangeSpec := { name := "cursorNone", fn := fun _ => fun
  | [] => { results := [.lit (.bool false)], args := [] }
  | _ => none }
def CursorNoneWrongFalsely : Prop := cursorNoneRow.holds Try.pinned (OpenSpec.ofChange cursorNoneWrong)

/-- 'postmarklaw02.VarintBack': WHATEVER THE INPUT: true; the input reads as it did. -/
def varintBackSpec : ChangeSpec := { name := "varintBack", fn := fun _ => fun
  | [d1, d2, d3] => { results := [.lit (.bool true)], args := [d1, d2, d3] }
  | _ => none }
def varintBackRow : OpenClaim := { program := "ytlkdoahdcepncaa", sum := "0f57e6ebdbc33c48d2a263638ab4418cd9cf7c0beb6f4f9647be6bb1df0413b4", func := "postmark/postmarklaw02.VarintBack", spec := "varintBack", apart := false }
def VarintBackSaid : Prop := varintBackRow.holds Try.pinned (OpenSpec.ofChange varintBackSpec)

/-- ITS FALSE NEIGHBOUR: 'it returns false'. Refute it at one input. -/
def varintBackWrong : ChangeSpec := { name := "varintBack", fn := fun _ => fun
  | [d1, d2, d3] => { results := [.lit (.bool false)], args := [d1, d2, d3] }
  | _ => none }
def VarintBackWrongFalsely : Prop := varintBackRow.holds Try.pinned (OpenSpec.ofChange varintBackWrong)

/-- 'postmarklaw02.VarintTakes': WHATEVER THE INPUT: true; the input reads as it did. -/
def varintTakesSpec : ChangeSpec := { name := "varintTakes", fn := fun _ => fun
  | [d1, d2] => { results := [.lit (.bool true)], args := [d1, d2] }
  | _ => none }
def varintTakesRow : OpenClaim := { program := "ytlkdoahdcepncaa", sum := "0f57e6ebdbc33c48d2a263638ab4418cd9cf7c0beb6f4f9647be6bb1df0413b4", func := "postmark/postmarklaw02.VarintTakes", spec := "varintTakes", apart := false }
def VarintTakesSaid : Prop := varintTakesRow.holds Try.pinned (OpenSpec.ofChange varintTakesSpec)

/-- ITS FALSE NEIGHBOUR: 'it returns false'. Refute it at one input. -/
def varintTakesWrong : ChangeSpec := { name := "varintTakes", fn := fun _ => fun
  | [d1, d2] => { results := [.lit (.bool false)], args := [d1, d2] }
  | _ => none }
def VarintTakesWrongFalsely : Prop := varintTakesRow.holds Try.pinned (OpenSpec.ofChange varintTakesWrong)

/-- 'postmarklaw02.VarintReads': WHATEVER THE INPUT: true; the input reads as it did. -/
def varintReadsSpec : ChangeSpec := { name := "varintReads", fn := fun _ => fun
  | [d1, d2] => { results := [.lit (.bool true)], args := [d1, d2] }
  | _ => none }
def varintReadsRow : OpenClaim := { program := "ytlkdoahdcepncaa", sum := "0f57e6ebdbc33c48d2a263638ab4418cd9cf7c0beb6f4f9647be6bb1df0413b4", func := "postmark/postmarklaw02.VarintReads", spec := "varintReads", apart := false }
def VarintReadsSaid : Prop := varintReadsRow.holds Try.pinned (OpenSpec.ofChange varintReadsSpec)

/-- ITS FALSE NEIGHBOUR: 'it returns false'. Refute it at one input. -/
def varintReadsWrong : ChangeSpec := { name := "varintReads", fn := fun _ => fun
  | [d1, d2] => { results := [.lit (.bool false)], args := [d1, d2] }
  | _ => none }
def VarintReadsWrongFalsely : Prop := varintReadsRow.holds Try.pinned (OpenSpec.ofChange varintReadsWrong)

/-- 'postmarklaw03.ZigzagReads': WHATEVER THE INPUT: true; the input reads as it did. -/
def zigzagReadsSpec : ChangeSpec := { name := "zigzagReads", fn := fun _ => fun
  | [d1, d2, d3] => { results := [.lit (.bool true)], args := [d1, d2, d3] }
  | _ => none }
def zigzagReadsRow : OpenClaim := { program := "ytlkdoahdcepncaa", sum := "0f57e6ebdbc33c48d2a263638ab4418cd9cf7c0beb6f4f9647be6bb1df0413b4", func := "postmark/postmarklaw03.ZigzagReads", spec := "zigzagReads", apart := false }
def ZigzagReadsSaid : Prop := zigzagReadsRow.holds Try.pinned (OpenSpec.ofChange zigzagReadsSpec)

/-- ITS FALSE NEIGHBOUR: 'it returns false'. Refute it at one input. -/
def zigzagReadsWrong : ChangeSpec := { name := "zigzagReads", fn := fun _ => fun
  | [d1, d2, d3] => { results := [.lit (.bool false)], args := [d1, d2, d3] }
  | _ => none }
def ZigzagReadsWrongFalsely : Prop := zigzagReadsRow.holds Try.pinned (OpenSpec.ofChange zigzagReadsWrong)

/-- 'postmarklaw04.CrcBursts': WHATEVER THE INPUT: true; the input reads as it did. -/
def crcBurstsSpec : ChangeSpec := { name := "crcBursts", fn := fun _ => fun
  | [d1, d2, d3] => { results := [.lit (.bool true)], args := [d1, d2, d3] }
  | _ => none }
def crcBurstsRow : OpenClaim := { program := "ytlkdoahdcepncaa", sum := "0f57e6ebdbc33c48d2a263638ab4418cd9cf7c0beb6f4f9647be6bb1df0413b4", func := "postmark/postmarklaw04.CrcBursts", spec := "crcBursts", unfollowed := true, recurses := true, apart := false }
def CrcBurstsSaid : Prop := crcBurstsRow.holds Try.pinned (OpenSpec.ofChange crcBurstsSpec)

/-- ITS FALSE NEIGHBOUR: 'it returns false'. Refute it at one input. -/
def crcBurstsWrong : ChangeSpec := { name := "crcBursts", fn := fun _ => fun
  | [d1, d2, d3] => { results := [.lit (.bool false)], args := [d1, d2, d3] }
  | _ => none }
def CrcBurstsWrongFalsely : Prop := crcBurstsRow.holds Try.pinned (OpenSpec.ofChange crcBurstsWrong)

/-- 'postmarklaw05.FrameBack': WHATEVER THE INPUT: true; the input reads as it did. -/
def frameBackSpec : ChangeSpec := { name := "frameBack", fn := fun _ => fun
  | [d1, d2, d3, d4, d5] => { results := [.lit (.bool true)], args := [d1, d2, d3, d4, d5] }
  | _ => none }
def frameBackRow : OpenClaim := { program := "ytlkdoahdcepncaa", sum := "0f57e6ebdbc33c48d2a263638ab4418cd9cf7c0beb6f4f9647be6bb1df0413b4", func := "postmark/postmarklaw05.FrameBack", spec := "frameBack", unfollowed := true, recurses := true, apart := false }
def FrameBackSaid : Prop := frameBackRow.holds Try.pinned (OpenSpec.ofChange frameBackSpec)

/-- ITS FALSE NEIGHBOUR: 'it returns false'. Refute it at one input. -/
def frameBackWrong : ChangeSpec := { name := "frameBack", fn := fun _ => fun
  | [d1, d2, d3, d4, d5] => { results := [.lit (.bool false)], args := [d1, d2, d3, d4, d5] }
  | _ => none }
def FrameBackWrongFalsely : Prop := frameBackRow.holds Try.pinned (OpenSpec.ofChange frameBackWrong)

/-- 'postmarklaw04.CrcSums': WHATEVER THE INPUT: true; the input reads as it did. -/
def crcSumsSpec : ChangeSpec := { name := "crcSums", fn := fun _ => fun
  | [d1, d2, d3, d4] => { results := [.lit (.bool true)], args := [d1, d2, d3, d4] }
  | _ => none }
def crcSumsRow : OpenClaim := { program := "ytlkdoahdcepncaa", sum := "0f57e6ebdbc33c48d2a263638ab4418cd9cf7c0beb6f4f9647be6bb1df0413b4", func := "postmark/postmarklaw04.CrcSums", spec := "crcSums", inPlace := ["internal/abi.NoEscape", "internal/bytealg.MakeNoZero"], unfollowed := true, recurses := true, apart := false }
def CrcSumsSaid : Prop := crcSumsRow.holds Try.pinned (OpenSpec.ofChange crcSumsSpec)

/-- ITS FALSE NEIGHBOUR: 'it returns false'. Refute it at one input. -/
def crcSumsWrong : ChangeSpec := { name := "crcSums", fn := fun _ => fun
  | [d1, d2, d3, d4] => { results := [.lit (.bool false)], args := [d1, d2, d3, d4] }
  | _ => none }
def CrcSumsWrongFalsely : Prop := crcSumsRow.holds Try.pinned (OpenSpec.ofChange crcSumsWrong)

/-- 'postmarklaw05.FrameReads': WHATEVER THE INPUT: true; the input reads as it did. -/
def frameReadsSpec : ChangeSpec := { name := "frameReads", fn := fun _ => fun
  | [d1, d2, d3] => { results := [.lit (.bool true)], args := [d1, d2, d3] }
  | _ => none }
def frameReadsRow : OpenClaim := { program := "ytlkdoahdcepncaa", sum := "0f57e6ebdbc33c48d2a263638ab4418cd9cf7c0beb6f4f9647be6bb1df0413b4", func := "postmark/postmarklaw05.FrameReads", spec := "frameReads", unfollowed := true, recurses := true, apart := false }
def FrameReadsSaid : Prop := frameReadsRow.holds Try.pinned (OpenSpec.ofChange frameReadsSpec)

/-- ITS FALSE NEIGHBOUR: 'it returns false'. Refute it at one input. -/
def frameReadsWrong : ChangeSpec := { name := "frameReads", fn := fun _ => fun
  | [d1, d2, d3] => { results := [.lit (.bool false)], args := [d1, d2, d3] }
  | _ => none }
def FrameReadsWrongFalsely : Prop := frameReadsRow.holds Try.pinned (OpenSpec.ofChange frameReadsWrong)

/-- 'postmarklaw06.DeframeNone': WHATEVER THE INPUT: true; the input reads as it did. -/
def deframeNoneSpec : ChangeSpec := { name := "deframeNone", fn := fun _ => fun
  | [] => { results := [.lit (.bool true)], args := [] }
  | _ => none }
def deframeNoneRow : OpenClaim := { program := "ytlkdoahdcepncaa", sum := "0f57e6ebdbc33c48d2a263638ab4418cd9cf7c0beb6f4f9647be6bb1df0413b4", func := "postmark/postmarklaw06.DeframeNone", spec := "deframeNone", unfollowed := true, recurses := true, apart := false }
def DeframeNoneSaid : Prop := deframeNoneRow.holds Try.pinned (OpenSpec.ofChange deframeNoneSpec)

/-- ITS FALSE NEIGHBOUR: 'it returns false'. Refute it at one input. -/
def deframeNoneWrong : ChangeSpec := { name := "deframeNone", fn := fun _ => fun
  | [] => { results := [.lit (.bool false)], args := [] }
  | _ => none }
def DeframeNoneWrongFalsely : Prop := deframeNoneRow.holds Try.pinned (OpenSpec.ofChange deframeNoneWrong)

/-- 'postmarklaw05.FrameLong': WHATEVER THE INPUT: true; the input reads as it did. -/
def frameLongSpec : ChangeSpec := { name := "frameLong", fn := fun _ => fun
  | [] => { results := [.lit (.bool true)], args := [] }
  | _ => none }
def frameLongRow : OpenClaim := { program := "ytlkdoahdcepncaa", sum := "0f57e6ebdbc33c48d2a263638ab4418cd9cf7c0beb6f4f9647be6bb1df0413b4", func := "postmark/postmarklaw05.FrameLong", spec := "frameLong", inPlace := ["internal/abi.NoEscape", "internal/bytealg.MakeNoZero"], unfollowed := true, recurses := true, apart := false }
def FrameLongSaid : Prop := frameLongRow.holds Try.pinned (OpenSpec.ofChange frameLongSpec)

/-- ITS FALSE NEIGHBOUR: 'it returns false'. Refute it at one input. -/
def frameLongWrong : ChangeSpec := { name := "frameLong", fn := fun _ => fun
  | [] => { results := [.lit (.bool false)], args := [] }
  | _ => none }
def FrameLongWrongFalsely : Prop := frameLongRow.holds Try.pinned (OpenSpec.ofChange frameLongWrong)

/-- 'postmarklaw06.DeframeFeeds': WHATEVER THE INPUT: true; the input reads as it did. -/
def deframeFeedsSpec : ChangeSpec := { name := "deframeFeeds", fn := fun _ => fun
  | [d] => { results := [.lit (.bool true)], args := [d] }
  | _ => none }
def deframeFeedsRow : OpenClaim := { program := "ytlkdoahdcepncaa", sum := "0f57e6ebdbc33c48d2a263638ab4418cd9cf7c0beb6f4f9647be6bb1df0413b4", func := "postmark/postmarklaw06.DeframeFeeds", spec := "deframeFeeds", inPlace := ["internal/abi.NoEscape", "internal/bytealg.MakeNoZero"], unfollowed := true, recurses := true, apart := false }
def DeframeFeedsSaid : Prop := deframeFeedsRow.holds Try.pinned (OpenSpec.ofChange deframeFeedsSpec)

/-- ITS FALSE NEIGHBOUR: 'it returns false'. Refute it at one input. -/
def deframeFeedsWrong : ChangeSpec := { name := "deframeFeeds", fn := fun _ => fun
  | [d] => { results := [.lit (.bool false)], args := [d] }
  | _ => none }
def DeframeFeedsWrongFalsely : Prop := deframeFeedsRow.holds Try.pinned (OpenSpec.ofChange deframeFeedsWrong)

/-- 'postmarklaw06.DeframeCuts': WHATEVER THE INPUT: true; the input reads as it did. -/
def deframeCutsSpec : ChangeSpec := { name := "deframeCuts", fn := fun _ => fun
  | [d1, d2] => { results := [.lit (.bool true)], args := [d1, d2] }
  | _ => none }
def deframeCutsRow : OpenClaim := { program := "ytlkdoahdcepncaa", sum := "0f57e6ebdbc33c48d2a263638ab4418cd9cf7c0beb6f4f9647be6bb1df0413b4", func := "postmark/postmarklaw06.DeframeCuts", spec := "deframeCuts", unfollowed := true, recurses := true, apart := false }
def DeframeCutsSaid : Prop := deframeCutsRow.holds Try.pinned (OpenSpec.ofChange deframeCutsSpec)

/-- ITS FALSE NEIGHBOUR: 'it returns false'. Refute it at one input. -/
def deframeCutsWrong : ChangeSpec := { name := "deframeCuts", fn := fun _ => fun
  | [d1, d2] => { results := [.lit (.bool false)], args := [d1, d2] }
  | _ => none }
def DeframeCutsWrongFalsely : Prop := deframeCutsRow.holds Try.pinned (OpenSpec.ofChange deframeCutsWrong)

/- THE SECOND FORM. 'bulk': how many values and letters a reading holds, each counted each time it is reached (what is shared counts as often as it is met; a slice's spare places count too). A statement '..UptoSaid' is the law's where the arguments, and the package variables that the reading takes, are together of bulk at most 1048576: NARROWER than '..Said'. Prove '..Said' where nothing that the law and all that it calls make is longer than what came in: it says more and counts as full. Else prove '..UptoSaid'. A law counts once. -/
mutual
def uptoBulk {H : Type} : DataW H → Nat
  | .lit (.string bytes) => bytes.length + 1
  | .lit _ => 1
  | .nil => 1
  | .ptr d => uptoBulk d + 1
  | .slice elems spare => uptoBulkAll elems + uptoBulkAll spare + 1
  | .agg parts => uptoBulkAll parts + 1
  | .iface _ d => uptoBulk d + 1
  | .map entries => uptoBulkEntries entries + 1
  | .held _ => 1
def uptoBulkAll {H : Type} : List (DataW H) → Nat
  | [] => 0
  | d :: r => uptoBulk d + uptoBulkAll r
def uptoBulkEntries {H : Type} : List (Lit × DataW H) → Nat
  | [] => 0
  | x :: r => uptoBulkEntry x + uptoBulkEntries r
def uptoBulkEntry {H : Type} : Lit × DataW H → Nat
  | (.string bytes, d) => bytes.length + uptoBulk d + 1
  | (_, d) => uptoBulk d + 1
 end
def uptoSmall : (H : Type) → List (DataW H) → Bool := fun _ ds => decide (uptoBulkAll ds ≤ 1048576)
def OpenSpec.upto (s : _root_.Go.ChangeSpec) : _root_.Go.OpenSpec := { _root_.Go.OpenSpec.ofChange s with cond := some uptoSmall }

/-- 'postmarklaw01.CursorTakes', WHERE WHAT IT READS IS OF BULK AT MOST 1048576: true; the input reads as it did. -/
def cursorTakesUptoRow : OpenClaim := { program := "ytlkdoahdcepncaa", sum := "0f57e6ebdbc33c48d2a263638ab4418cd9cf7c0beb6f4f9647be6bb1df0413b4", func := "postmark/postmarklaw01.CursorTakes", spec := "cursorTakes", apart := false, narrowed := true }
def CursorTakesUptoSaid : Prop := cursorTakesUptoRow.holds Try.pinned (OpenSpec.upto cursorTakesSpec)

/-- 'postmarklaw01.CursorNone', WHERE WHAT IT READS IS OF BULK AT MOST 1048576: true; the input reads as it did. -/
def cursorNoneUptoRow : OpenClaim := { program := "ytlkdoahdcepncaa", sum := "0f57e6ebdbc33c48d2a263638ab4418cd9cf7c0beb6f4f9647be6bb1df0413b4", func := "postmark/postmarklaw01.CursorNone", spec := "cursorNone", apart := false, narrowed := true }
def CursorNoneUptoSaid : Prop := cursorNoneUptoRow.holds Try.pinned (OpenSpec.upto cursorNoneSpec)

/-- 'postmarklaw02.VarintBack', WHERE WHAT IT READS IS OF BULK AT MOST 1048576: true; the input reads as it did. -/
def varintBackUptoRow : OpenClaim := { program := "ytlkdoahdcepncaa", sum := "0f57e6ebdbc33c48d2a263638ab4418cd9cf7c0beb6f4f9647be6bb1df0413b4", func := "postmark/postmarklaw02.VarintBack", spec := "varintBack", apart := false, narrowed := true }
def VarintBackUptoSaid : Prop := varintBackUptoRow.holds Try.pinned (OpenSpec.upto varintBackSpec)

/-- 'postmarklaw02.VarintTakes', WHERE WHAT IT READS IS OF BULK AT MOST 1048576: true; the input reads as it did. -/
def varintTakesUptoRow : OpenClaim := { program := "ytlkdoahdcepncaa", sum := "0f57e6ebdbc33c48d2a263638ab4418cd9cf7c0beb6f4f9647be6bb1df0413b4", func := "postmark/postmarklaw02.VarintTakes", spec := "varintTakes", apart := false, narrowed := true }
def VarintTakesUptoSaid : Prop := varintTakesUptoRow.holds Try.pinned (OpenSpec.upto varintTakesSpec)

/-- 'postmarklaw02.VarintReads', WHERE WHAT IT READS IS OF BULK AT MOST 1048576: true; the input reads as it did. -/
def varintReadsUptoRow : OpenClaim := { program := "ytlkdoahdcepncaa", sum := "0f57e6ebdbc33c48d2a263638ab4418cd9cf7c0beb6f4f9647be6bb1df0413b4", func := "postmark/postmarklaw02.VarintReads", spec := "varintReads", apart := false, narrowed := true }
def VarintReadsUptoSaid : Prop := varintReadsUptoRow.holds Try.pinned (OpenSpec.upto varintReadsSpec)

/-- 'postmarklaw03.ZigzagReads', WHERE WHAT IT READS IS OF BULK AT MOST 1048576: true; the input reads as it did. -/
def zigzagReadsUptoRow : OpenClaim := { program := "ytlkdoahdcepncaa", sum := "0f57e6ebdbc33c48d2a263638ab4418cd9cf7c0beb6f4f9647be6bb1df0413b4", func := "postmark/postmarklaw03.ZigzagReads", spec := "zigzagReads", apart := false, narrowed := true }
def ZigzagReadsUptoSaid : Prop := zigzagReadsUptoRow.holds Try.pinned (OpenSpec.upto zigzagReadsSpec)

/-- 'postmarklaw04.CrcBursts', WHERE WHAT IT READS IS OF BULK AT MOST 1048576: true; the input reads as it did. -/
def crcBurstsUptoRow : OpenClaim := { program := "ytlkdoahdcepncaa", sum := "0f57e6ebdbc33c48d2a263638ab4418cd9cf7c0beb6f4f9647be6bb1df0413b4", func := "postmark/postmarklaw04.CrcBursts", spec := "crcBursts", unfollowed := true, recurses := true, apart := false, narrowed := true }
def CrcBurstsUptoSaid : Prop := crcBurstsUptoRow.holds Try.pinned (OpenSpec.upto crcBurstsSpec)

/-- 'postmarklaw05.FrameBack', WHERE WHAT IT READS IS OF BULK AT MOST 1048576: true; the input reads as it did. -/
def frameBackUptoRow : OpenClaim := { program := "ytlkdoahdcepncaa", sum := "0f57e6ebdbc33c48d2a263638ab4418cd9cf7c0beb6f4f9647be6bb1df0413b4", func := "postmark/postmarklaw05.FrameBack", spec := "frameBack", unfollowed := true, recurses := true, apart := false, narrowed := true }
def FrameBackUptoSaid : Prop := frameBackUptoRow.holds Try.pinned (OpenSpec.upto frameBackSpec)

/-- 'postmarklaw04.CrcSums', WHERE WHAT IT READS IS OF BULK AT MOST 1048576: true; the input reads as it did. -/
def crcSumsUptoRow : OpenClaim := { program := "ytlkdoahdcepncaa", sum := "0f57e6ebdbc33c48d2a263638ab4418cd9cf7c0beb6f4f9647be6bb1df0413b4", func := "postmark/postmarklaw04.CrcSums", spec := "crcSums", inPlace := ["internal/abi.NoEscape", "internal/bytealg.MakeNoZero"], unfollowed := true, recurses := true, apart := false, narrowed := true }
def CrcSumsUptoSaid : Prop := crcSumsUptoRow.holds Try.pinned (OpenSpec.upto crcSumsSpec)

/-- 'postmarklaw05.FrameReads', WHERE WHAT IT READS IS OF BULK AT MOST 1048576: true; the input reads as it did. -/
def frameReadsUptoRow : OpenClaim := { program := "ytlkdoahdcepncaa", sum := "0f57e6ebdbc33c48d2a263638ab4418cd9cf7c0beb6f4f9647be6bb1df0413b4", func := "postmark/postmarklaw05.FrameReads", spec := "frameReads", unfollowed := true, recurses := true, apart := false, narrowed := true }
def FrameReadsUptoSaid : Prop := frameReadsUptoRow.holds Try.pinned (OpenSpec.upto frameReadsSpec)

/-- 'postmarklaw06.DeframeNone', WHERE WHAT IT READS IS OF BULK AT MOST 1048576: true; the input reads as it did. -/
def deframeNoneUptoRow : OpenClaim := { program := "ytlkdoahdcepncaa", sum := "0f57e6ebdbc33c48d2a263638ab4418cd9cf7c0beb6f4f9647be6bb1df0413b4", func := "postmark/postmarklaw06.DeframeNone", spec := "deframeNone", unfollowed := true, recurses := true, apart := false, narrowed := true }
def DeframeNoneUptoSaid : Prop := deframeNoneUptoRow.holds Try.pinned (OpenSpec.upto deframeNoneSpec)

/-- 'postmarklaw05.FrameLong', WHERE WHAT IT READS IS OF BULK AT MOST 1048576: true; the input reads as it did. -/
def frameLongUptoRow : OpenClaim := { program := "ytlkdoahdcepncaa", sum := "0f57e6ebdbc33c48d2a263638ab4418cd9cf7c0beb6f4f9647be6bb1df0413b4", func := "postmark/postmarklaw05.FrameLong", spec := "frameLong", inPlace := ["internal/abi.NoEscape", "internal/bytealg.MakeNoZero"], unfollowed := true, recurses := true, apart := false, narrowed := true }
def FrameLongUptoSaid : Prop := frameLongUptoRow.holds Try.pinned (OpenSpec.upto frameLongSpec)

/-- 'postmarklaw06.DeframeFeeds', WHERE WHAT IT READS IS OF BULK AT MOST 1048576: true; the input reads as it did. -/
def deframeFeedsUptoRow : OpenClaim := { program := "ytlkdoahdcepncaa", sum := "0f57e6ebdbc33c48d2a263638ab4418cd9cf7c0beb6f4f9647be6bb1df0413b4", func := "postmark/postmarklaw06.DeframeFeeds", spec := "deframeFeeds", inPlace := ["internal/abi.NoEscape", "internal/bytealg.MakeNoZero"], unfollowed := true, recurses := true, apart := false, narrowed := true }
def DeframeFeedsUptoSaid : Prop := deframeFeedsUptoRow.holds Try.pinned (OpenSpec.upto deframeFeedsSpec)

/-- 'postmarklaw06.DeframeCuts', WHERE WHAT IT READS IS OF BULK AT MOST 1048576: true; the input reads as it did. -/
def deframeCutsUptoRow : OpenClaim := { program := "ytlkdoahdcepncaa", sum := "0f57e6ebdbc33c48d2a263638ab4418cd9cf7c0beb6f4f9647be6bb1df0413b4", func := "postmark/postmarklaw06.DeframeCuts", spec := "deframeCuts", unfollowed := true, recurses := true, apart := false, narrowed := true }
def DeframeCutsUptoSaid : Prop := deframeCutsUptoRow.holds Try.pinned (OpenSpec.upto deframeCutsSpec)

end Rows
end Go.Proofs.Ytlkdoahdcepncaa
