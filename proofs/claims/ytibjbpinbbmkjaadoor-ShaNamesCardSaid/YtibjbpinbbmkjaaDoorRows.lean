/-
  NARROWER THAN 'FOR EVERY INPUT', by the rows' own cells (each row's printed sentence says how): ShaSums: laid · ShaParts: laid · ShaWrites: laid · ShaNames: laid · ShaApart: laid · ShaDigests: laid.
  DERIVED. THE GIVEN ROWS OF THIS SEAT. 6 by the template 'for every input the law returns true; each argument reads behind the call as it read before'; 0 by the template 'total and deterministic' (their statements: YtibjbpinbbmkjaaDoorTotals.lean).
  GIVEN WITH THE SEED: the statements are not yours to turn. If you find one false, say at which input.
  Laid BY PROGRAM, IN A SANDBOX (cutbox-rows.mjs): the forced cells as the released guide's own fill.sh prints them over the translation eebf25cd1c4635ff… (all of the seat's roots in one cut). By AI agents, Wed Nov 11 2026. No macro, syntax, notation, axiom, sorry.
-/
import Derived.Test.YtibjbpinbbmkjaaDoorChecked
import GoSem.Claim
import GoSem.ClaimJoined
import GoSem.ClaimMapViews
import Derived.JoinedTies
import Derived.KernelRfl
namespace Go.Proofs.YtibjbpinbbmkjaaDoor
/- THE CELL 'sum', in the pinned program and in every row, IS THE sha256 OF THE DUMP (.gsa) THAT YtibjbpinbbmkjaaDoorProg.lean LOADS. Nothing in Lean hashes anything: it is a label: what it is worth is what the hold of that sum in a sandbox is worth. -/
noncomputable def Tryd.pinned : Pinned := { name := "ytibjbpinbbmkjaadoor", sum := "eebf25cd1c4635ff859c4da068bcf1b0ab3719ac8f0053eb9bf69a6a764b6c4d", checked := Tryd.checked }
namespace Rows
def none {H : Type} : Left H := { results := [], args := [] }

/- WHAT THE LISTED PACKAGE-LEVEL VARIABLES READ AS WHEN THE CALL BEGINS. Each datum BY PROGRAM (the guide's laid-datum.mjs) off the statement by which the dump's own 'gosem.cut.vars' lays the variable. In a bare row this is a premise. The card (YtibjbpinbbmkjaaDoorCards.lean) ties it to the program's text. -/
def laid_legate_hex_digits {H : Type} : DataW H := .agg [.lit (.int .u8 48), .lit (.int .u8 49), .lit (.int .u8 50), .lit (.int .u8 51), .lit (.int .u8 52), .lit (.int .u8 53), .lit (.int .u8 54), .lit (.int .u8 55), .lit (.int .u8 56), .lit (.int .u8 57), .lit (.int .u8 97), .lit (.int .u8 98), .lit (.int .u8 99), .lit (.int .u8 100), .lit (.int .u8 101), .lit (.int .u8 102)]
def laid_legate_sha_initial {H : Type} : DataW H := .agg [.lit (.int .u32 1779033703), .lit (.int .u32 3144134277), .lit (.int .u32 1013904242), .lit (.int .u32 2773480762), .lit (.int .u32 1359893119), .lit (.int .u32 2600822924), .lit (.int .u32 528734635), .lit (.int .u32 1541459225)]
def laid_legate_sha_rounds {H : Type} : DataW H := .agg [.lit (.int .u32 1116352408), .lit (.int .u32 1899447441), .lit (.int .u32 3049323471), .lit (.int .u32 3921009573), .lit (.int .u32 961987163), .lit (.int .u32 1508970993), .lit (.int .u32 2453635748), .lit (.int .u32 2870763221), .lit (.int .u32 3624381080), .lit (.int .u32 310598401), .lit (.int .u32 607225278), .lit (.int .u32 1426881987), .lit (.int .u32 1925078388), .lit (.int .u32 2162078206), .lit (.int .u32 2614888103), .lit (.int .u32 3248222580), .lit (.int .u32 3835390401), .lit (.int .u32 4022224774), .lit (.int .u32 264347078), .lit (.int .u32 604807628), .lit (.int .u32 770255983), .lit (.int .u32 1249150122), .lit (.int .u32 1555081692), .lit (.int .u32 1996064986), .lit (.int .u32 2554220882), .lit (.int .u32 2821834349), .lit (.int .u32 2952996808), .lit (.int .u32 3210313671), .lit (.int .u32 3336571891), .lit (.int .u32 3584528711), .lit (.int .u32 113926993), .lit (.int .u32 338241895), .lit (.int .u32 666307205), .lit (.int .u32 773529912), .lit (.int .u32 1294757372), .lit (.int .u32 1396182291), .lit (.int .u32 1695183700), .lit (.int .u32 1986661051), .lit (.int .u32 2177026350), .lit (.int .u32 2456956037), .lit (.int .u32 2730485921), .lit (.int .u32 2820302411), .lit (.int .u32 3259730800), .lit (.int .u32 3345764771), .lit (.int .u32 3516065817), .lit (.int .u32 3600352804), .lit (.int .u32 4094571909), .lit (.int .u32 275423344), .lit (.int .u32 430227734), .lit (.int .u32 506948616), .lit (.int .u32 659060556), .lit (.int .u32 883997877), .lit (.int .u32 958139571), .lit (.int .u32 1322822218), .lit (.int .u32 1537002063), .lit (.int .u32 1747873779), .lit (.int .u32 1955562222), .lit (.int .u32 2024104815), .lit (.int .u32 2227730452), .lit (.int .u32 2361852424), .lit (.int .u32 2428436474), .lit (.int .u32 2756734187), .lit (.int .u32 3204031479), .lit (.int .u32 3329325298)]

/-- 'legatelaw02.ShaSums': WHATEVER THE INPUT: true; the input reads as it did. -/
def shaSumsSpec : ChangeSpec := { name := "shaSums", fn := fun _ => fun
  | [d] => { results := [.lit (.bool true)], args := [d] }
  | _ => none }
def shaSumsRow : OpenClaim := { program := "ytibjbpinbbmkjaadoor", sum := "eebf25cd1c4635ff859c4da068bcf1b0ab3719ac8f0053eb9bf69a6a764b6c4d", func := "legate/legatelaw02.ShaSums", spec := "shaSums", inPlace := ["internal/abi.NoEscape", "internal/bytealg.MakeNoZero"], named := ["legate/sha.initial", "legate/sha.rounds", "legate/hex.digits"], apart := false, laid := [("legate/hex.digits", laid_legate_hex_digits), ("legate/sha.initial", laid_legate_sha_initial), ("legate/sha.rounds", laid_legate_sha_rounds)] }
def ShaSumsSaid : Prop := shaSumsRow.holds Tryd.pinned (OpenSpec.ofChange shaSumsSpec)

/-- ITS FALSE NEIGHBOUR: 'it returns false'. Refute it at one input. -/
def shaSumsWrong : ChangeSpec := { name := "shaSums", fn := fun _ => fun
  | [d] => { results := [.lit (.bool false)], args := [d] }
  | _ => none }
def ShaSumsWrongFalsely : Prop := shaSumsRow.holds Tryd.pinned (OpenSpec.ofChange shaSumsWrong)

/-- 'legatelaw02.ShaParts': WHATEVER THE INPUT: true; the input reads as it did. -/
def shaPartsSpec : ChangeSpec := { name := "shaParts", fn := fun _ => fun
  | [d1, d2] => { results := [.lit (.bool true)], args := [d1, d2] }
  | _ => none }
def shaPartsRow : OpenClaim := { program := "ytibjbpinbbmkjaadoor", sum := "eebf25cd1c4635ff859c4da068bcf1b0ab3719ac8f0053eb9bf69a6a764b6c4d", func := "legate/legatelaw02.ShaParts", spec := "shaParts", inPlace := ["internal/abi.NoEscape", "internal/bytealg.MakeNoZero"], named := ["legate/sha.initial", "legate/sha.rounds", "legate/hex.digits"], apart := false, laid := [("legate/hex.digits", laid_legate_hex_digits), ("legate/sha.initial", laid_legate_sha_initial), ("legate/sha.rounds", laid_legate_sha_rounds)] }
def ShaPartsSaid : Prop := shaPartsRow.holds Tryd.pinned (OpenSpec.ofChange shaPartsSpec)

/-- ITS FALSE NEIGHBOUR: 'it returns false'. Refute it at one input. -/
def shaPartsWrong : ChangeSpec := { name := "shaParts", fn := fun _ => fun
  | [d1, d2] => { results := [.lit (.bool false)], args := [d1, d2] }
  | _ => none }
def ShaPartsWrongFalsely : Prop := shaPartsRow.holds Tryd.pinned (OpenSpec.ofChange shaPartsWrong)

/-- 'legatelaw02.ShaWrites': WHATEVER THE INPUT: true; the input reads as it did. -/
def shaWritesSpec : ChangeSpec := { name := "shaWrites", fn := fun _ => fun
  | [d1, d2] => { results := [.lit (.bool true)], args := [d1, d2] }
  | _ => none }
def shaWritesRow : OpenClaim := { program := "ytibjbpinbbmkjaadoor", sum := "eebf25cd1c4635ff859c4da068bcf1b0ab3719ac8f0053eb9bf69a6a764b6c4d", func := "legate/legatelaw02.ShaWrites", spec := "shaWrites", inPlace := ["internal/abi.NoEscape", "internal/bytealg.MakeNoZero"], named := ["legate/sha.initial", "legate/sha.rounds", "legate/hex.digits"], apart := false, laid := [("legate/hex.digits", laid_legate_hex_digits), ("legate/sha.initial", laid_legate_sha_initial), ("legate/sha.rounds", laid_legate_sha_rounds)] }
def ShaWritesSaid : Prop := shaWritesRow.holds Tryd.pinned (OpenSpec.ofChange shaWritesSpec)

/-- ITS FALSE NEIGHBOUR: 'it returns false'. Refute it at one input. -/
def shaWritesWrong : ChangeSpec := { name := "shaWrites", fn := fun _ => fun
  | [d1, d2] => { results := [.lit (.bool false)], args := [d1, d2] }
  | _ => none }
def ShaWritesWrongFalsely : Prop := shaWritesRow.holds Tryd.pinned (OpenSpec.ofChange shaWritesWrong)

/-- 'legatelaw02.ShaNames': WHATEVER THE INPUT: true; the input reads as it did. -/
def shaNamesSpec : ChangeSpec := { name := "shaNames", fn := fun _ => fun
  | [] => { results := [.lit (.bool true)], args := [] }
  | _ => none }
def shaNamesRow : OpenClaim := { program := "ytibjbpinbbmkjaadoor", sum := "eebf25cd1c4635ff859c4da068bcf1b0ab3719ac8f0053eb9bf69a6a764b6c4d", func := "legate/legatelaw02.ShaNames", spec := "shaNames", inPlace := ["internal/abi.NoEscape", "internal/bytealg.MakeNoZero"], named := ["legate/sha.initial", "legate/sha.rounds", "legate/hex.digits"], apart := false, laid := [("legate/hex.digits", laid_legate_hex_digits), ("legate/sha.initial", laid_legate_sha_initial), ("legate/sha.rounds", laid_legate_sha_rounds)] }
def ShaNamesSaid : Prop := shaNamesRow.holds Tryd.pinned (OpenSpec.ofChange shaNamesSpec)

/-- ITS FALSE NEIGHBOUR: 'it returns false'. Refute it at one input. -/
def shaNamesWrong : ChangeSpec := { name := "shaNames", fn := fun _ => fun
  | [] => { results := [.lit (.bool false)], args := [] }
  | _ => none }
def ShaNamesWrongFalsely : Prop := shaNamesRow.holds Tryd.pinned (OpenSpec.ofChange shaNamesWrong)

/-- 'legatelaw02.ShaApart': WHATEVER THE INPUT: true; the input reads as it did. -/
def shaApartSpec : ChangeSpec := { name := "shaApart", fn := fun _ => fun
  | [d1, d2, d3] => { results := [.lit (.bool true)], args := [d1, d2, d3] }
  | _ => none }
def shaApartRow : OpenClaim := { program := "ytibjbpinbbmkjaadoor", sum := "eebf25cd1c4635ff859c4da068bcf1b0ab3719ac8f0053eb9bf69a6a764b6c4d", func := "legate/legatelaw02.ShaApart", spec := "shaApart", inPlace := ["internal/abi.NoEscape", "internal/bytealg.MakeNoZero"], named := ["legate/sha.initial", "legate/sha.rounds", "legate/hex.digits"], apart := false, laid := [("legate/hex.digits", laid_legate_hex_digits), ("legate/sha.initial", laid_legate_sha_initial), ("legate/sha.rounds", laid_legate_sha_rounds)] }
def ShaApartSaid : Prop := shaApartRow.holds Tryd.pinned (OpenSpec.ofChange shaApartSpec)

/-- ITS FALSE NEIGHBOUR: 'it returns false'. Refute it at one input. -/
def shaApartWrong : ChangeSpec := { name := "shaApart", fn := fun _ => fun
  | [d1, d2, d3] => { results := [.lit (.bool false)], args := [d1, d2, d3] }
  | _ => none }
def ShaApartWrongFalsely : Prop := shaApartRow.holds Tryd.pinned (OpenSpec.ofChange shaApartWrong)

/-- 'legatelaw02.ShaDigests': WHATEVER THE INPUT: true; the input reads as it did. -/
def shaDigestsSpec : ChangeSpec := { name := "shaDigests", fn := fun _ => fun
  | [d] => { results := [.lit (.bool true)], args := [d] }
  | _ => none }
def shaDigestsRow : OpenClaim := { program := "ytibjbpinbbmkjaadoor", sum := "eebf25cd1c4635ff859c4da068bcf1b0ab3719ac8f0053eb9bf69a6a764b6c4d", func := "legate/legatelaw02.ShaDigests", spec := "shaDigests", inPlace := ["internal/abi.NoEscape", "internal/bytealg.MakeNoZero"], named := ["legate/sha.initial", "legate/sha.rounds", "legate/hex.digits"], apart := false, laid := [("legate/hex.digits", laid_legate_hex_digits), ("legate/sha.initial", laid_legate_sha_initial), ("legate/sha.rounds", laid_legate_sha_rounds)] }
def ShaDigestsSaid : Prop := shaDigestsRow.holds Tryd.pinned (OpenSpec.ofChange shaDigestsSpec)

/-- ITS FALSE NEIGHBOUR: 'it returns false'. Refute it at one input. -/
def shaDigestsWrong : ChangeSpec := { name := "shaDigests", fn := fun _ => fun
  | [d] => { results := [.lit (.bool false)], args := [d] }
  | _ => none }
def ShaDigestsWrongFalsely : Prop := shaDigestsRow.holds Tryd.pinned (OpenSpec.ofChange shaDigestsWrong)

/- THE SECOND FORM. 'bulk': how many values and letters a reading holds, each counted each time it is reached (what is shared counts as often as it is met; a slice's spare places count too). A statement '..UptoSaid' is the law's where the arguments, and the package variables that the reading takes, are together of bulk at most 1048576: NARROWER than '..Said'. Prove '..Said' where nothing that the law and all that it calls make is longer than what came in: it says more and counts as full. Else prove '..UptoSaid'. A law counts once. -/
mutual
def uptoBulk {H : Type} : DataW H → Nat
  | .lit (.string bytes) => bytes.length + 1
  | .lit _ => 1
  | .nil => 1
  | .ptr d => uptoBulk d + 1
  | .slice elems spare => uptoBulkAll elems + uptoBulkAll spare + 1
  | .agg parts => uptoBulkAll parts + 1
  | .iface _ d => uptoBulk d + 1
  | .map entries => uptoBulkEntries entries + 1
  | .held _ => 1
def uptoBulkAll {H : Type} : List (DataW H) → Nat
  | [] => 0
  | d :: r => uptoBulk d + uptoBulkAll r
def uptoBulkEntries {H : Type} : List (Lit × DataW H) → Nat
  | [] => 0
  | x :: r => uptoBulkEntry x + uptoBulkEntries r
def uptoBulkEntry {H : Type} : Lit × DataW H → Nat
  | (.string bytes, d) => bytes.length + uptoBulk d + 1
  | (_, d) => uptoBulk d + 1
 end
def uptoSmall : (H : Type) → List (DataW H) → Bool := fun _ ds => decide (uptoBulkAll ds ≤ 1048576)
def OpenSpec.upto (s : _root_.Go.ChangeSpec) : _root_.Go.OpenSpec := { _root_.Go.OpenSpec.ofChange s with cond := some uptoSmall }

/-- 'legatelaw02.ShaSums', WHERE WHAT IT READS IS OF BULK AT MOST 1048576: true; the input reads as it did. -/
def shaSumsUptoRow : OpenClaim := { program := "ytibjbpinbbmkjaadoor", sum := "eebf25cd1c4635ff859c4da068bcf1b0ab3719ac8f0053eb9bf69a6a764b6c4d", func := "legate/legatelaw02.ShaSums", spec := "shaSums", inPlace := ["internal/abi.NoEscape", "internal/bytealg.MakeNoZero"], named := ["legate/sha.initial", "legate/sha.rounds", "legate/hex.digits"], apart := false, laid := [("legate/hex.digits", laid_legate_hex_digits), ("legate/sha.initial", laid_legate_sha_initial), ("legate/sha.rounds", laid_legate_sha_rounds)], narrowed := true }
def ShaSumsUptoSaid : Prop := shaSumsUptoRow.holds Tryd.pinned (OpenSpec.upto shaSumsSpec)

/-- 'legatelaw02.ShaParts', WHERE WHAT IT READS IS OF BULK AT MOST 1048576: true; the input reads as it did. -/
def shaPartsUptoRow : OpenClaim := { program := "ytibjbpinbbmkjaadoor", sum := "eebf25cd1c4635ff859c4da068bcf1b0ab3719ac8f0053eb9bf69a6a764b6c4d", func := "legate/legatelaw02.ShaParts", spec := "shaParts", inPlace := ["internal/abi.NoEscape", "internal/bytealg.MakeNoZero"], named := ["legate/sha.initial", "legate/sha.rounds", "legate/hex.digits"], apart := false, laid := [("legate/hex.digits", laid_legate_hex_digits), ("legate/sha.initial", laid_legate_sha_initial), ("legate/sha.rounds", laid_legate_sha_rounds)], narrowed := true }
def ShaPartsUptoSaid : Prop := shaPartsUptoRow.holds Tryd.pinned (OpenSpec.upto shaPartsSpec)

/-- 'legatelaw02.ShaWrites', WHERE WHAT IT READS IS OF BULK AT MOST 1048576: true; the input reads as it did. -/
def shaWritesUptoRow : OpenClaim := { program := "ytibjbpinbbmkjaadoor", sum := "eebf25cd1c4635ff859c4da068bcf1b0ab3719ac8f0053eb9bf69a6a764b6c4d", func := "legate/legatelaw02.ShaWrites", spec := "shaWrites", inPlace := ["internal/abi.NoEscape", "internal/bytealg.MakeNoZero"], named := ["legate/sha.initial", "legate/sha.rounds", "legate/hex.digits"], apart := false, laid := [("legate/hex.digits", laid_legate_hex_digits), ("legate/sha.initial", laid_legate_sha_initial), ("legate/sha.rounds", laid_legate_sha_rounds)], narrowed := true }
def ShaWritesUptoSaid : Prop := shaWritesUptoRow.holds Tryd.pinned (OpenSpec.upto shaWritesSpec)

/-- 'legatelaw02.ShaNames', WHERE WHAT IT READS IS OF BULK AT MOST 1048576: true; the input reads as it did. -/
def shaNamesUptoRow : OpenClaim := { program := "ytibjbpinbbmkjaadoor", sum := "eebf25cd1c4635ff859c4da068bcf1b0ab3719ac8f0053eb9bf69a6a764b6c4d", func := "legate/legatelaw02.ShaNames", spec := "shaNames", inPlace := ["internal/abi.NoEscape", "internal/bytealg.MakeNoZero"], named := ["legate/sha.initial", "legate/sha.rounds", "legate/hex.digits"], apart := false, laid := [("legate/hex.digits", laid_legate_hex_digits), ("legate/sha.initial", laid_legate_sha_initial), ("legate/sha.rounds", laid_legate_sha_rounds)], narrowed := true }
def ShaNamesUptoSaid : Prop := shaNamesUptoRow.holds Tryd.pinned (OpenSpec.upto shaNamesSpec)

/-- 'legatelaw02.ShaApart', WHERE WHAT IT READS IS OF BULK AT MOST 1048576: true; the input reads as it did. -/
def shaApartUptoRow : OpenClaim := { program := "ytibjbpinbbmkjaadoor", sum := "eebf25cd1c4635ff859c4da068bcf1b0ab3719ac8f0053eb9bf69a6a764b6c4d", func := "legate/legatelaw02.ShaApart", spec := "shaApart", inPlace := ["internal/abi.NoEscape", "internal/bytealg.MakeNoZero"], named := ["legate/sha.initial", "legate/sha.rounds", "legate/hex.digits"], apart := false, laid := [("legate/hex.digits", laid_legate_hex_digits), ("legate/sha.initial", laid_legate_sha_initial), ("legate/sha.rounds", laid_legate_sha_rounds)], narrowed := true }
def ShaApartUptoSaid : Prop := shaApartUptoRow.holds Tryd.pinned (OpenSpec.upto shaApartSpec)

/-- 'legatelaw02.ShaDigests', WHERE WHAT IT READS IS OF BULK AT MOST 1048576: true; the input reads as it did. -/
def shaDigestsUptoRow : OpenClaim := { program := "ytibjbpinbbmkjaadoor", sum := "eebf25cd1c4635ff859c4da068bcf1b0ab3719ac8f0053eb9bf69a6a764b6c4d", func := "legate/legatelaw02.ShaDigests", spec := "shaDigests", inPlace := ["internal/abi.NoEscape", "internal/bytealg.MakeNoZero"], named := ["legate/sha.initial", "legate/sha.rounds", "legate/hex.digits"], apart := false, laid := [("legate/hex.digits", laid_legate_hex_digits), ("legate/sha.initial", laid_legate_sha_initial), ("legate/sha.rounds", laid_legate_sha_rounds)], narrowed := true }
def ShaDigestsUptoSaid : Prop := shaDigestsUptoRow.holds Tryd.pinned (OpenSpec.upto shaDigestsSpec)

end Rows
end Go.Proofs.YtibjbpinbbmkjaaDoor
