/-
  No cell of these rows narrows 'for every input' (looked for: loops, veiled, ifaces, maps, wideKeys, modest, calm, conditions, laid).
  DERIVED. THE GIVEN ROWS OF THIS SEAT. 10 by the template 'for every input the law returns true; each argument reads behind the call as it read before'; 0 by the template 'total and deterministic' (their statements: YtdpapeledldifaaGreatTotals.lean).
  GIVEN WITH THE SEED: the statements are not yours to turn. If you find one false, say at which input.
  Laid BY PROGRAM, IN A SANDBOX (cutbox-rows.mjs): the forced cells as the released guide's own fill.sh prints them over the translation a560092100d2ee95… (all of the seat's roots in one cut). By AI agents, Wed Nov 11 2026. No macro, syntax, notation, axiom, sorry.
-/
import Derived.Test.YtdpapeledldifaaGreatChecked
import GoSem.Claim
import GoSem.ClaimJoined
import GoSem.ClaimMapViews
import Derived.JoinedTies
import Derived.KernelRfl
namespace Go.Proofs.YtdpapeledldifaaGreat
/- THE CELL 'sum', in the pinned program and in every row, IS THE sha256 OF THE DUMP (.gsa) THAT YtdpapeledldifaaGreatProg.lean LOADS. Nothing in Lean hashes anything: it is a label: what it is worth is what the hold of that sum in a sandbox is worth. -/
noncomputable def Tryz.pinned : Pinned := { name := "ytdpapeledldifaagreat", sum := "a560092100d2ee955f1fa74d97d3807132ea736dcfcefb2ae5aa60a94c7506ef", checked := Tryz.checked }
namespace Rows
def none {H : Type} : Left H := { results := [], args := [] }

/-- 'laws.FnPool': WHATEVER THE INPUT: true; the input reads as it did. -/
def fnPoolSpec : ChangeSpec := { name := "fnPool", fn := fun _ => fun
  | [d] => { results := [.lit (.bool true)], args := [d] }
  | _ => none }
def fnPoolRow : OpenClaim := { program := "ytdpapeledldifaagreat", sum := "a560092100d2ee955f1fa74d97d3807132ea736dcfcefb2ae5aa60a94c7506ef", func := "loop.example/stowage/laws.FnPool", spec := "fnPool", inPlace := ["internal/bytealg.IndexByteString", "internal/bytealg.IndexString"], unfollowed := true, recurses := true, named := ["internal/bytealg.MaxLen"], apart := false }
def FnPoolSaid : Prop := fnPoolRow.holds Tryz.pinned (OpenSpec.ofChange fnPoolSpec)

/-- ITS FALSE NEIGHBOUR: 'it returns false'. Refute it at one input. -/
def fnPoolWrong : ChangeSpec := { name := "fnPool", fn := fun _ => fun
  | [d] => { results := [.lit (.bool false)], args := [d] }
  | _ => none }
def FnPoolWrongFalsely : Prop := fnPoolRow.holds Tryz.pinned (OpenSpec.ofChange fnPoolWrong)

/-- 'laws.FnFileGet': WHATEVER THE INPUT: true; the input reads as it did. -/
def fnFileGetSpec : ChangeSpec := { name := "fnFileGet", fn := fun _ => fun
  | [d1, d2] => { results := [.lit (.bool true)], args := [d1, d2] }
  | _ => none }
def fnFileGetRow : OpenClaim := { program := "ytdpapeledldifaagreat", sum := "a560092100d2ee955f1fa74d97d3807132ea736dcfcefb2ae5aa60a94c7506ef", func := "loop.example/stowage/laws.FnFileGet", spec := "fnFileGet", unfollowed := true, recurses := true, apart := false }
def FnFileGetSaid : Prop := fnFileGetRow.holds Tryz.pinned (OpenSpec.ofChange fnFileGetSpec)

/-- ITS FALSE NEIGHBOUR: 'it returns false'. Refute it at one input. -/
def fnFileGetWrong : ChangeSpec := { name := "fnFileGet", fn := fun _ => fun
  | [d1, d2] => { results := [.lit (.bool false)], args := [d1, d2] }
  | _ => none }
def FnFileGetWrongFalsely : Prop := fnFileGetRow.holds Tryz.pinned (OpenSpec.ofChange fnFileGetWrong)

/-- 'laws.FnFilePut': WHATEVER THE INPUT: true; the input reads as it did. -/
def fnFilePutSpec : ChangeSpec := { name := "fnFilePut", fn := fun _ => fun
  | [d] => { results := [.lit (.bool true)], args := [d] }
  | _ => none }
def fnFilePutRow : OpenClaim := { program := "ytdpapeledldifaagreat", sum := "a560092100d2ee955f1fa74d97d3807132ea736dcfcefb2ae5aa60a94c7506ef", func := "loop.example/stowage/laws.FnFilePut", spec := "fnFilePut", unfollowed := true, recurses := true, apart := false }
def FnFilePutSaid : Prop := fnFilePutRow.holds Tryz.pinned (OpenSpec.ofChange fnFilePutSpec)

/-- ITS FALSE NEIGHBOUR: 'it returns false'. Refute it at one input. -/
def fnFilePutWrong : ChangeSpec := { name := "fnFilePut", fn := fun _ => fun
  | [d] => { results := [.lit (.bool false)], args := [d] }
  | _ => none }
def FnFilePutWrongFalsely : Prop := fnFilePutRow.holds Tryz.pinned (OpenSpec.ofChange fnFilePutWrong)

/-- 'laws.FnExactFrameMany': WHATEVER THE INPUT: true; the input reads as it did. -/
def fnExactFrameManySpec : ChangeSpec := { name := "fnExactFrameMany", fn := fun _ => fun
  | [d] => { results := [.lit (.bool true)], args := [d] }
  | _ => none }
def fnExactFrameManyRow : OpenClaim := { program := "ytdpapeledldifaagreat", sum := "a560092100d2ee955f1fa74d97d3807132ea736dcfcefb2ae5aa60a94c7506ef", func := "loop.example/stowage/laws.FnExactFrameMany", spec := "fnExactFrameMany", inPlace := ["internal/bytealg.IndexByteString", "internal/bytealg.IndexString"], unfollowed := true, recurses := true, named := ["internal/bytealg.MaxLen"], apart := false }
def FnExactFrameManySaid : Prop := fnExactFrameManyRow.holds Tryz.pinned (OpenSpec.ofChange fnExactFrameManySpec)

/-- ITS FALSE NEIGHBOUR: 'it returns false'. Refute it at one input. -/
def fnExactFrameManyWrong : ChangeSpec := { name := "fnExactFrameMany", fn := fun _ => fun
  | [d] => { results := [.lit (.bool false)], args := [d] }
  | _ => none }
def FnExactFrameManyWrongFalsely : Prop := fnExactFrameManyRow.holds Tryz.pinned (OpenSpec.ofChange fnExactFrameManyWrong)

/-- 'laws.FnCheck': WHATEVER THE INPUT: true; the input reads as it did. -/
def fnCheckSpec : ChangeSpec := { name := "fnCheck", fn := fun _ => fun
  | [d] => { results := [.lit (.bool true)], args := [d] }
  | _ => none }
def fnCheckRow : OpenClaim := { program := "ytdpapeledldifaagreat", sum := "a560092100d2ee955f1fa74d97d3807132ea736dcfcefb2ae5aa60a94c7506ef", func := "loop.example/stowage/laws.FnCheck", spec := "fnCheck", inPlace := ["internal/bytealg.IndexByteString", "internal/bytealg.IndexString"], unfollowed := true, recurses := true, named := ["internal/bytealg.MaxLen"], apart := false }
def FnCheckSaid : Prop := fnCheckRow.holds Tryz.pinned (OpenSpec.ofChange fnCheckSpec)

/-- ITS FALSE NEIGHBOUR: 'it returns false'. Refute it at one input. -/
def fnCheckWrong : ChangeSpec := { name := "fnCheck", fn := fun _ => fun
  | [d] => { results := [.lit (.bool false)], args := [d] }
  | _ => none }
def FnCheckWrongFalsely : Prop := fnCheckRow.holds Tryz.pinned (OpenSpec.ofChange fnCheckWrong)

/-- 'laws.FnFrameLess': WHATEVER THE INPUT: true; the input reads as it did. -/
def fnFrameLessSpec : ChangeSpec := { name := "fnFrameLess", fn := fun _ => fun
  | [d] => { results := [.lit (.bool true)], args := [d] }
  | _ => none }
def fnFrameLessRow : OpenClaim := { program := "ytdpapeledldifaagreat", sum := "a560092100d2ee955f1fa74d97d3807132ea736dcfcefb2ae5aa60a94c7506ef", func := "loop.example/stowage/laws.FnFrameLess", spec := "fnFrameLess", inPlace := ["internal/bytealg.IndexByteString", "internal/bytealg.IndexString"], unfollowed := true, recurses := true, named := ["internal/bytealg.MaxLen"], apart := false }
def FnFrameLessSaid : Prop := fnFrameLessRow.holds Tryz.pinned (OpenSpec.ofChange fnFrameLessSpec)

/-- ITS FALSE NEIGHBOUR: 'it returns false'. Refute it at one input. -/
def fnFrameLessWrong : ChangeSpec := { name := "fnFrameLess", fn := fun _ => fun
  | [d] => { results := [.lit (.bool false)], args := [d] }
  | _ => none }
def FnFrameLessWrongFalsely : Prop := fnFrameLessRow.holds Tryz.pinned (OpenSpec.ofChange fnFrameLessWrong)

/-- 'laws.FnExactFrameLess': WHATEVER THE INPUT: true; the input reads as it did. -/
def fnExactFrameLessSpec : ChangeSpec := { name := "fnExactFrameLess", fn := fun _ => fun
  | [d] => { results := [.lit (.bool true)], args := [d] }
  | _ => none }
def fnExactFrameLessRow : OpenClaim := { program := "ytdpapeledldifaagreat", sum := "a560092100d2ee955f1fa74d97d3807132ea736dcfcefb2ae5aa60a94c7506ef", func := "loop.example/stowage/laws.FnExactFrameLess", spec := "fnExactFrameLess", inPlace := ["internal/bytealg.IndexByteString", "internal/bytealg.IndexString"], unfollowed := true, recurses := true, named := ["internal/bytealg.MaxLen"], apart := false }
def FnExactFrameLessSaid : Prop := fnExactFrameLessRow.holds Tryz.pinned (OpenSpec.ofChange fnExactFrameLessSpec)

/-- ITS FALSE NEIGHBOUR: 'it returns false'. Refute it at one input. -/
def fnExactFrameLessWrong : ChangeSpec := { name := "fnExactFrameLess", fn := fun _ => fun
  | [d] => { results := [.lit (.bool false)], args := [d] }
  | _ => none }
def FnExactFrameLessWrongFalsely : Prop := fnExactFrameLessRow.holds Tryz.pinned (OpenSpec.ofChange fnExactFrameLessWrong)

/-- 'laws.FnTidy': WHATEVER THE INPUT: true; the input reads as it did. -/
def fnTidySpec : ChangeSpec := { name := "fnTidy", fn := fun _ => fun
  | [d] => { results := [.lit (.bool true)], args := [d] }
  | _ => none }
def fnTidyRow : OpenClaim := { program := "ytdpapeledldifaagreat", sum := "a560092100d2ee955f1fa74d97d3807132ea736dcfcefb2ae5aa60a94c7506ef", func := "loop.example/stowage/laws.FnTidy", spec := "fnTidy", inPlace := ["internal/bytealg.IndexByteString", "internal/bytealg.IndexString"], unfollowed := true, recurses := true, named := ["internal/bytealg.MaxLen"], apart := false }
def FnTidySaid : Prop := fnTidyRow.holds Tryz.pinned (OpenSpec.ofChange fnTidySpec)

/-- ITS FALSE NEIGHBOUR: 'it returns false'. Refute it at one input. -/
def fnTidyWrong : ChangeSpec := { name := "fnTidy", fn := fun _ => fun
  | [d] => { results := [.lit (.bool false)], args := [d] }
  | _ => none }
def FnTidyWrongFalsely : Prop := fnTidyRow.holds Tryz.pinned (OpenSpec.ofChange fnTidyWrong)

/-- 'laws.FnDeep': WHATEVER THE INPUT: true; the input reads as it did. -/
def fnDeepSpec : ChangeSpec := { name := "fnDeep", fn := fun _ => fun
  | [d] => { results := [.lit (.bool true)], args := [d] }
  | _ => none }
def fnDeepRow : OpenClaim := { program := "ytdpapeledldifaagreat", sum := "a560092100d2ee955f1fa74d97d3807132ea736dcfcefb2ae5aa60a94c7506ef", func := "loop.example/stowage/laws.FnDeep", spec := "fnDeep", inPlace := ["internal/bytealg.IndexByteString", "internal/bytealg.IndexString"], unfollowed := true, recurses := true, named := ["internal/bytealg.MaxLen"], apart := false }
def FnDeepSaid : Prop := fnDeepRow.holds Tryz.pinned (OpenSpec.ofChange fnDeepSpec)

/-- ITS FALSE NEIGHBOUR: 'it returns false'. Refute it at one input. -/
def fnDeepWrong : ChangeSpec := { name := "fnDeep", fn := fun _ => fun
  | [d] => { results := [.lit (.bool false)], args := [d] }
  | _ => none }
def FnDeepWrongFalsely : Prop := fnDeepRow.holds Tryz.pinned (OpenSpec.ofChange fnDeepWrong)

/-- 'laws.FnRefs': WHATEVER THE INPUT: true; the input reads as it did. -/
def fnRefsSpec : ChangeSpec := { name := "fnRefs", fn := fun _ => fun
  | [d] => { results := [.lit (.bool true)], args := [d] }
  | _ => none }
def fnRefsRow : OpenClaim := { program := "ytdpapeledldifaagreat", sum := "a560092100d2ee955f1fa74d97d3807132ea736dcfcefb2ae5aa60a94c7506ef", func := "loop.example/stowage/laws.FnRefs", spec := "fnRefs", inPlace := ["internal/bytealg.IndexByteString", "internal/bytealg.IndexString"], unfollowed := true, recurses := true, named := ["internal/bytealg.MaxLen"], apart := false }
def FnRefsSaid : Prop := fnRefsRow.holds Tryz.pinned (OpenSpec.ofChange fnRefsSpec)

/-- ITS FALSE NEIGHBOUR: 'it returns false'. Refute it at one input. -/
def fnRefsWrong : ChangeSpec := { name := "fnRefs", fn := fun _ => fun
  | [d] => { results := [.lit (.bool false)], args := [d] }
  | _ => none }
def FnRefsWrongFalsely : Prop := fnRefsRow.holds Tryz.pinned (OpenSpec.ofChange fnRefsWrong)

/- THE SECOND FORM. 'bulk': how many values and letters a reading holds, each counted each time it is reached (what is shared counts as often as it is met; a slice's spare places count too). A statement '..UptoSaid' is the law's where the arguments, and the package variables that the reading takes, are together of bulk at most 1048576: NARROWER than '..Said'. Prove '..Said' where nothing that the law and all that it calls make is longer than what came in: it says more and counts as full. Else prove '..UptoSaid'. A law counts once. -/
mutual
def uptoBulk {H : Type} : DataW H → Nat
  | .lit (.string bytes) => bytes.length + 1
  | .lit _ => 1
  | .nil => 1
  | .ptr d => uptoBulk d + 1
  | .slice elems spare => uptoBulkAll elems + uptoBulkAll spare + 1
  | .agg parts => uptoBulkAll parts + 1
  | .iface _ d => uptoBulk d + 1
  | .map entries => uptoBulkEntries entries + 1
  | .held _ => 1
def uptoBulkAll {H : Type} : List (DataW H) → Nat
  | [] => 0
  | d :: r => uptoBulk d + uptoBulkAll r
def uptoBulkEntries {H : Type} : List (Lit × DataW H) → Nat
  | [] => 0
  | x :: r => uptoBulkEntry x + uptoBulkEntries r
def uptoBulkEntry {H : Type} : Lit × DataW H → Nat
  | (.string bytes, d) => bytes.length + uptoBulk d + 1
  | (_, d) => uptoBulk d + 1
 end
def uptoSmall : (H : Type) → List (DataW H) → Bool := fun _ ds => decide (uptoBulkAll ds ≤ 1048576)
def OpenSpec.upto (s : _root_.Go.ChangeSpec) : _root_.Go.OpenSpec := { _root_.Go.OpenSpec.ofChange s with cond := some uptoSmall }

/-- 'laws.FnPool', WHERE WHAT IT READS IS OF BULK AT MOST 1048576: true; the input reads as it did. -/
def fnPoolUptoRow : OpenClaim := { program := "ytdpapeledldifaagreat", sum := "a560092100d2ee955f1fa74d97d3807132ea736dcfcefb2ae5aa60a94c7506ef", func := "loop.example/stowage/laws.FnPool", spec := "fnPool", inPlace := ["internal/bytealg.IndexByteString", "internal/bytealg.IndexString"], unfollowed := true, recurses := true, named := ["internal/bytealg.MaxLen"], apart := false, narrowed := true }
def FnPoolUptoSaid : Prop := fnPoolUptoRow.holds Tryz.pinned (OpenSpec.upto fnPoolSpec)

/-- 'laws.FnFileGet', WHERE WHAT IT READS IS OF BULK AT MOST 1048576: true; the input reads as it did. -/
def fnFileGetUptoRow : OpenClaim := { program := "ytdpapeledldifaagreat", sum := "a560092100d2ee955f1fa74d97d3807132ea736dcfcefb2ae5aa60a94c7506ef", func := "loop.example/stowage/laws.FnFileGet", spec := "fnFileGet", unfollowed := true, recurses := true, apart := false, narrowed := true }
def FnFileGetUptoSaid : Prop := fnFileGetUptoRow.holds Tryz.pinned (OpenSpec.upto fnFileGetSpec)

/-- 'laws.FnFilePut', WHERE WHAT IT READS IS OF BULK AT MOST 1048576: true; the input reads as it did. -/
def fnFilePutUptoRow : OpenClaim := { program := "ytdpapeledldifaagreat", sum := "a560092100d2ee955f1fa74d97d3807132ea736dcfcefb2ae5aa60a94c7506ef", func := "loop.example/stowage/laws.FnFilePut", spec := "fnFilePut", unfollowed := true, recurses := true, apart := false, narrowed := true }
def FnFilePutUptoSaid : Prop := fnFilePutUptoRow.holds Tryz.pinned (OpenSpec.upto fnFilePutSpec)

/-- 'laws.FnExactFrameMany', WHERE WHAT IT READS IS OF BULK AT MOST 1048576: true; the input reads as it did. -/
def fnExactFrameManyUptoRow : OpenClaim := { program := "ytdpapeledldifaagreat", sum := "a560092100d2ee955f1fa74d97d3807132ea736dcfcefb2ae5aa60a94c7506ef", func := "loop.example/stowage/laws.FnExactFrameMany", spec := "fnExactFrameMany", inPlace := ["internal/bytealg.IndexByteString", "internal/bytealg.IndexString"], unfollowed := true, recurses := true, named := ["internal/bytealg.MaxLen"], apart := false, narrowed := true }
def FnExactFrameManyUptoSaid : Prop := fnExactFrameManyUptoRow.holds Tryz.pinned (OpenSpec.upto fnExactFrameManySpec)

/-- 'laws.FnCheck', WHERE WHAT IT READS IS OF BULK AT MOST 1048576: true; the input reads as it did. -/
def fnCheckUptoRow : OpenClaim := { program := "ytdpapeledldifaagreat", sum := "a560092100d2ee955f1fa74d97d3807132ea736dcfcefb2ae5aa60a94c7506ef", func := "loop.example/stowage/laws.FnCheck", spec := "fnCheck", inPlace := ["internal/bytealg.IndexByteString", "internal/bytealg.IndexString"], unfollowed := true, recurses := true, named := ["internal/bytealg.MaxLen"], apart := false, narrowed := true }
def FnCheckUptoSaid : Prop := fnCheckUptoRow.holds Tryz.pinned (OpenSpec.upto fnCheckSpec)

/-- 'laws.FnFrameLess', WHERE WHAT IT READS IS OF BULK AT MOST 1048576: true; the input reads as it did. -/
def fnFrameLessUptoRow : OpenClaim := { program := "ytdpapeledldifaagreat", sum := "a560092100d2ee955f1fa74d97d3807132ea736dcfcefb2ae5aa60a94c7506ef", func := "loop.example/stowage/laws.FnFrameLess", spec := "fnFrameLess", inPlace := ["internal/bytealg.IndexByteString", "internal/bytealg.IndexString"], unfollowed := true, recurses := true, named := ["internal/bytealg.MaxLen"], apart := false, narrowed := true }
def FnFrameLessUptoSaid : Prop := fnFrameLessUptoRow.holds Tryz.pinned (OpenSpec.upto fnFrameLessSpec)

/-- 'laws.FnExactFrameLess', WHERE WHAT IT READS IS OF BULK AT MOST 1048576: true; the input reads as it did. -/
def fnExactFrameLessUptoRow : OpenClaim := { program := "ytdpapeledldifaagreat", sum := "a560092100d2ee955f1fa74d97d3807132ea736dcfcefb2ae5aa60a94c7506ef", func := "loop.example/stowage/laws.FnExactFrameLess", spec := "fnExactFrameLess", inPlace := ["internal/bytealg.IndexByteString", "internal/bytealg.IndexString"], unfollowed := true, recurses := true, named := ["internal/bytealg.MaxLen"], apart := false, narrowed := true }
def FnExactFrameLessUptoSaid : Prop := fnExactFrameLessUptoRow.holds Tryz.pinned (OpenSpec.upto fnExactFrameLessSpec)

/-- 'laws.FnTidy', WHERE WHAT IT READS IS OF BULK AT MOST 1048576: true; the input reads as it did. -/
def fnTidyUptoRow : OpenClaim := { program := "ytdpapeledldifaagreat", sum := "a560092100d2ee955f1fa74d97d3807132ea736dcfcefb2ae5aa60a94c7506ef", func := "loop.example/stowage/laws.FnTidy", spec := "fnTidy", inPlace := ["internal/bytealg.IndexByteString", "internal/bytealg.IndexString"], unfollowed := true, recurses := true, named := ["internal/bytealg.MaxLen"], apart := false, narrowed := true }
def FnTidyUptoSaid : Prop := fnTidyUptoRow.holds Tryz.pinned (OpenSpec.upto fnTidySpec)

/-- 'laws.FnDeep', WHERE WHAT IT READS IS OF BULK AT MOST 1048576: true; the input reads as it did. -/
def fnDeepUptoRow : OpenClaim := { program := "ytdpapeledldifaagreat", sum := "a560092100d2ee955f1fa74d97d3807132ea736dcfcefb2ae5aa60a94c7506ef", func := "loop.example/stowage/laws.FnDeep", spec := "fnDeep", inPlace := ["internal/bytealg.IndexByteString", "internal/bytealg.IndexString"], unfollowed := true, recurses := true, named := ["internal/bytealg.MaxLen"], apart := false, narrowed := true }
def FnDeepUptoSaid : Prop := fnDeepUptoRow.holds Tryz.pinned (OpenSpec.upto fnDeepSpec)

/-- 'laws.FnRefs', WHERE WHAT IT READS IS OF BULK AT MOST 1048576: true; the input reads as it did. -/
def fnRefsUptoRow : OpenClaim := { program := "ytdpapeledldifaagreat", sum := "a560092100d2ee955f1fa74d97d3807132ea736dcfcefb2ae5aa60a94c7506ef", func := "loop.example/stowage/laws.FnRefs", spec := "fnRefs", inPlace := ["internal/bytealg.IndexByteString", "internal/bytealg.IndexString"], unfollowed := true, recurses := true, named := ["internal/bytealg.MaxLen"], apart := false, narrowed := true }
def FnRefsUptoSaid : Prop := fnRefsUptoRow.holds Tryz.pinned (OpenSpec.upto fnRefsSpec)

end Rows
end Go.Proofs.YtdpapeledldifaaGreat
