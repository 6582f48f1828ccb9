/-
  NARROWER THAN 'FOR EVERY INPUT', by the rows' own cells (each row's printed sentence says how): BinsPaths: laid · BinsRoles: laid · BinsNames: laid · BinsOne: laid · BinsHalves: laid · BinsLonger: laid · BinsAll: laid · BinsNamed: laid.
  DERIVED. THE GIVEN ROWS OF THIS SEAT. 8 by the template 'for every input the law returns true; each argument reads behind the call as it read before'; 0 by the template 'total and deterministic' (their statements: YtflfmacfodkedaaDoorTotals.lean).
  GIVEN WITH THE SEED: the statements are not yours to turn. If you find one false, say at which input.
  Laid BY PROGRAM, IN A SANDBOX (cutbox-rows.mjs): the forced cells as the released guide's own fill.sh prints them over the translation 8458081bd8d574ae… (all of the seat's roots in one cut). By AI agents, Wed Nov 11 2026. No macro, syntax, notation, axiom, sorry.
-/
import Derived.Test.YtflfmacfodkedaaDoorChecked
import GoSem.Claim
import GoSem.ClaimJoined
import GoSem.ClaimMapViews
import Derived.JoinedTies
import Derived.KernelRfl
namespace Go.Proofs.YtflfmacfodkedaaDoor
/- THE CELL 'sum', in the pinned program and in every row, IS THE sha256 OF THE DUMP (.gsa) THAT YtflfmacfodkedaaDoorProg.lean LOADS. Nothing in Lean hashes anything: it is a label: what it is worth is what the hold of that sum in a sandbox is worth. -/
noncomputable def Tryd.pinned : Pinned := { name := "ytflfmacfodkedaadoor", sum := "8458081bd8d574ae12dac3ad9221bc021bb2014ddf7002b5d50e4835db5b05b5", checked := Tryd.checked }
namespace Rows
def none {H : Type} : Left H := { results := [], args := [] }

/- WHAT THE LISTED PACKAGE-LEVEL VARIABLES READ AS WHEN THE CALL BEGINS. Each datum BY PROGRAM (the guide's laid-datum.mjs) off the statement by which the dump's own 'gosem.cut.vars' lays the variable. In a bare row this is a premise. The card (YtflfmacfodkedaaDoorCards.lean) ties it to the program's text. -/
def laid_legate_hex_digits {H : Type} : DataW H := .agg [.lit (.int .u8 48), .lit (.int .u8 49), .lit (.int .u8 50), .lit (.int .u8 51), .lit (.int .u8 52), .lit (.int .u8 53), .lit (.int .u8 54), .lit (.int .u8 55), .lit (.int .u8 56), .lit (.int .u8 57), .lit (.int .u8 97), .lit (.int .u8 98), .lit (.int .u8 99), .lit (.int .u8 100), .lit (.int .u8 101), .lit (.int .u8 102)]
def laid_legate_sha_initial {H : Type} : DataW H := .agg [.lit (.int .u32 1779033703), .lit (.int .u32 3144134277), .lit (.int .u32 1013904242), .lit (.int .u32 2773480762), .lit (.int .u32 1359893119), .lit (.int .u32 2600822924), .lit (.int .u32 528734635), .lit (.int .u32 1541459225)]
def laid_legate_sha_rounds {H : Type} : DataW H := .agg [.lit (.int .u32 1116352408), .lit (.int .u32 1899447441), .lit (.int .u32 3049323471), .lit (.int .u32 3921009573), .lit (.int .u32 961987163), .lit (.int .u32 1508970993), .lit (.int .u32 2453635748), .lit (.int .u32 2870763221), .lit (.int .u32 3624381080), .lit (.int .u32 310598401), .lit (.int .u32 607225278), .lit (.int .u32 1426881987), .lit (.int .u32 1925078388), .lit (.int .u32 2162078206), .lit (.int .u32 2614888103), .lit (.int .u32 3248222580), .lit (.int .u32 3835390401), .lit (.int .u32 4022224774), .lit (.int .u32 264347078), .lit (.int .u32 604807628), .lit (.int .u32 770255983), .lit (.int .u32 1249150122), .lit (.int .u32 1555081692), .lit (.int .u32 1996064986), .lit (.int .u32 2554220882), .lit (.int .u32 2821834349), .lit (.int .u32 2952996808), .lit (.int .u32 3210313671), .lit (.int .u32 3336571891), .lit (.int .u32 3584528711), .lit (.int .u32 113926993), .lit (.int .u32 338241895), .lit (.int .u32 666307205), .lit (.int .u32 773529912), .lit (.int .u32 1294757372), .lit (.int .u32 1396182291), .lit (.int .u32 1695183700), .lit (.int .u32 1986661051), .lit (.int .u32 2177026350), .lit (.int .u32 2456956037), .lit (.int .u32 2730485921), .lit (.int .u32 2820302411), .lit (.int .u32 3259730800), .lit (.int .u32 3345764771), .lit (.int .u32 3516065817), .lit (.int .u32 3600352804), .lit (.int .u32 4094571909), .lit (.int .u32 275423344), .lit (.int .u32 430227734), .lit (.int .u32 506948616), .lit (.int .u32 659060556), .lit (.int .u32 883997877), .lit (.int .u32 958139571), .lit (.int .u32 1322822218), .lit (.int .u32 1537002063), .lit (.int .u32 1747873779), .lit (.int .u32 1955562222), .lit (.int .u32 2024104815), .lit (.int .u32 2227730452), .lit (.int .u32 2361852424), .lit (.int .u32 2428436474), .lit (.int .u32 2756734187), .lit (.int .u32 3204031479), .lit (.int .u32 3329325298)]

/-- 'legatelaw19.BinsPaths': WHATEVER THE INPUT: true; the input reads as it did. -/
def binsPathsSpec : ChangeSpec := { name := "binsPaths", fn := fun _ => fun
  | [d1, d2, d3] => { results := [.lit (.bool true)], args := [d1, d2, d3] }
  | _ => none }
def binsPathsRow : OpenClaim := { program := "ytflfmacfodkedaadoor", sum := "8458081bd8d574ae12dac3ad9221bc021bb2014ddf7002b5d50e4835db5b05b5", func := "legate/legatelaw19.BinsPaths", spec := "binsPaths", inPlace := ["internal/abi.NoEscape", "internal/bytealg.MakeNoZero"], named := ["legate/sha.initial", "legate/sha.rounds", "legate/hex.digits"], apart := false, laid := [("legate/hex.digits", laid_legate_hex_digits), ("legate/sha.initial", laid_legate_sha_initial), ("legate/sha.rounds", laid_legate_sha_rounds)] }
def BinsPathsSaid : Prop := binsPathsRow.holds Tryd.pinned (OpenSpec.ofChange binsPathsSpec)

/-- ITS FALSE NEIGHBOUR: 'it returns false'. Refute it at one input. -/
def binsPathsWrong : ChangeSpec := { name := "binsPaths", fn := fun _ => fun
  | [d1, d2, d3] => { results := [.lit (.bool false)], args := [d1, d2, d3] }
  | _ => none }
def BinsPathsWrongFalsely : Prop := binsPathsRow.holds Tryd.pinned (OpenSpec.ofChange binsPathsWrong)

/-- 'legatelaw19.BinsRoles': WHATEVER THE INPUT: true; the input reads as it did. -/
def binsRolesSpec : ChangeSpec := { name := "binsRoles", fn := fun _ => fun
  | [d1, d2, d3] => { results := [.lit (.bool true)], args := [d1, d2, d3] }
  | _ => none }
def binsRolesRow : OpenClaim := { program := "ytflfmacfodkedaadoor", sum := "8458081bd8d574ae12dac3ad9221bc021bb2014ddf7002b5d50e4835db5b05b5", func := "legate/legatelaw19.BinsRoles", spec := "binsRoles", inPlace := ["internal/abi.NoEscape", "internal/bytealg.MakeNoZero"], named := ["legate/sha.initial", "legate/sha.rounds", "legate/hex.digits"], apart := false, laid := [("legate/hex.digits", laid_legate_hex_digits), ("legate/sha.initial", laid_legate_sha_initial), ("legate/sha.rounds", laid_legate_sha_rounds)] }
def BinsRolesSaid : Prop := binsRolesRow.holds Tryd.pinned (OpenSpec.ofChange binsRolesSpec)

/-- ITS FALSE NEIGHBOUR: 'it returns false'. Refute it at one input. -/
def binsRolesWrong : ChangeSpec := { name := "binsRoles", fn := fun _ => fun
  | [d1, d2, d3] => { results := [.lit (.bool false)], args := [d1, d2, d3] }
  | _ => none }
def BinsRolesWrongFalsely : Prop := binsRolesRow.holds Tryd.pinned (OpenSpec.ofChange binsRolesWrong)

/-- 'legatelaw19.BinsNames': WHATEVER THE INPUT: true; the input reads as it did. -/
def binsNamesSpec : ChangeSpec := { name := "binsNames", fn := fun _ => fun
  | [] => { results := [.lit (.bool true)], args := [] }
  | _ => none }
def binsNamesRow : OpenClaim := { program := "ytflfmacfodkedaadoor", sum := "8458081bd8d574ae12dac3ad9221bc021bb2014ddf7002b5d50e4835db5b05b5", func := "legate/legatelaw19.BinsNames", spec := "binsNames", inPlace := ["internal/abi.NoEscape", "internal/bytealg.MakeNoZero"], named := ["legate/sha.initial", "legate/sha.rounds", "legate/hex.digits"], apart := false, laid := [("legate/hex.digits", laid_legate_hex_digits), ("legate/sha.initial", laid_legate_sha_initial), ("legate/sha.rounds", laid_legate_sha_rounds)] }
def BinsNamesSaid : Prop := binsNamesRow.holds Tryd.pinned (OpenSpec.ofChange binsNamesSpec)

/-- ITS FALSE NEIGHBOUR: 'it returns false'. Refute it at one input. -/
def binsNamesWrong : ChangeSpec := { name := "binsNames", fn := fun _ => fun
  | [] => { results := [.lit (.bool false)], args := [] }
  | _ => none }
def BinsNamesWrongFalsely : Prop := binsNamesRow.holds Tryd.pinned (OpenSpec.ofChange binsNamesWrong)

/-- 'legatelaw19.BinsOne': WHATEVER THE INPUT: true; the input reads as it did. -/
def binsOneSpec : ChangeSpec := { name := "binsOne", fn := fun _ => fun
  | [d1, d2] => { results := [.lit (.bool true)], args := [d1, d2] }
  | _ => none }
def binsOneRow : OpenClaim := { program := "ytflfmacfodkedaadoor", sum := "8458081bd8d574ae12dac3ad9221bc021bb2014ddf7002b5d50e4835db5b05b5", func := "legate/legatelaw19.BinsOne", spec := "binsOne", inPlace := ["internal/abi.NoEscape", "internal/bytealg.MakeNoZero"], named := ["legate/sha.initial", "legate/sha.rounds", "legate/hex.digits"], apart := false, laid := [("legate/hex.digits", laid_legate_hex_digits), ("legate/sha.initial", laid_legate_sha_initial), ("legate/sha.rounds", laid_legate_sha_rounds)] }
def BinsOneSaid : Prop := binsOneRow.holds Tryd.pinned (OpenSpec.ofChange binsOneSpec)

/-- ITS FALSE NEIGHBOUR: 'it returns false'. Refute it at one input. -/
def binsOneWrong : ChangeSpec := { name := "binsOne", fn := fun _ => fun
  | [d1, d2] => { results := [.lit (.bool false)], args := [d1, d2] }
  | _ => none }
def BinsOneWrongFalsely : Prop := binsOneRow.holds Tryd.pinned (OpenSpec.ofChange binsOneWrong)

/-- 'legatelaw19.BinsHalves': WHATEVER THE INPUT: true; the input reads as it did. -/
def binsHalvesSpec : ChangeSpec := { name := "binsHalves", fn := fun _ => fun
  | [d1, d2] => { results := [.lit (.bool true)], args := [d1, d2] }
  | _ => none }
def binsHalvesRow : OpenClaim := { program := "ytflfmacfodkedaadoor", sum := "8458081bd8d574ae12dac3ad9221bc021bb2014ddf7002b5d50e4835db5b05b5", func := "legate/legatelaw19.BinsHalves", spec := "binsHalves", inPlace := ["internal/abi.NoEscape", "internal/bytealg.MakeNoZero"], named := ["legate/sha.initial", "legate/sha.rounds", "legate/hex.digits"], apart := false, laid := [("legate/hex.digits", laid_legate_hex_digits), ("legate/sha.initial", laid_legate_sha_initial), ("legate/sha.rounds", laid_legate_sha_rounds)] }
def BinsHalvesSaid : Prop := binsHalvesRow.holds Tryd.pinned (OpenSpec.ofChange binsHalvesSpec)

/-- ITS FALSE NEIGHBOUR: 'it returns false'. Refute it at one input. -/
def binsHalvesWrong : ChangeSpec := { name := "binsHalves", fn := fun _ => fun
  | [d1, d2] => { results := [.lit (.bool false)], args := [d1, d2] }
  | _ => none }
def BinsHalvesWrongFalsely : Prop := binsHalvesRow.holds Tryd.pinned (OpenSpec.ofChange binsHalvesWrong)

/-- 'legatelaw19.BinsLonger': WHATEVER THE INPUT: true; the input reads as it did. -/
def binsLongerSpec : ChangeSpec := { name := "binsLonger", fn := fun _ => fun
  | [d1, d2, d3, d4] => { results := [.lit (.bool true)], args := [d1, d2, d3, d4] }
  | _ => none }
def binsLongerRow : OpenClaim := { program := "ytflfmacfodkedaadoor", sum := "8458081bd8d574ae12dac3ad9221bc021bb2014ddf7002b5d50e4835db5b05b5", func := "legate/legatelaw19.BinsLonger", spec := "binsLonger", inPlace := ["internal/abi.NoEscape", "internal/bytealg.MakeNoZero"], named := ["legate/sha.initial", "legate/sha.rounds", "legate/hex.digits"], apart := false, laid := [("legate/hex.digits", laid_legate_hex_digits), ("legate/sha.initial", laid_legate_sha_initial), ("legate/sha.rounds", laid_legate_sha_rounds)] }
def BinsLongerSaid : Prop := binsLongerRow.holds Tryd.pinned (OpenSpec.ofChange binsLongerSpec)

/-- ITS FALSE NEIGHBOUR: 'it returns false'. Refute it at one input. -/
def binsLongerWrong : ChangeSpec := { name := "binsLonger", fn := fun _ => fun
  | [d1, d2, d3, d4] => { results := [.lit (.bool false)], args := [d1, d2, d3, d4] }
  | _ => none }
def BinsLongerWrongFalsely : Prop := binsLongerRow.holds Tryd.pinned (OpenSpec.ofChange binsLongerWrong)

/-- 'legatelaw19.BinsAll': WHATEVER THE INPUT: true; the input reads as it did. -/
def binsAllSpec : ChangeSpec := { name := "binsAll", fn := fun _ => fun
  | [d1, d2] => { results := [.lit (.bool true)], args := [d1, d2] }
  | _ => none }
def binsAllRow : OpenClaim := { program := "ytflfmacfodkedaadoor", sum := "8458081bd8d574ae12dac3ad9221bc021bb2014ddf7002b5d50e4835db5b05b5", func := "legate/legatelaw19.BinsAll", spec := "binsAll", inPlace := ["internal/abi.NoEscape", "internal/bytealg.MakeNoZero"], named := ["legate/sha.initial", "legate/sha.rounds", "legate/hex.digits"], apart := false, laid := [("legate/hex.digits", laid_legate_hex_digits), ("legate/sha.initial", laid_legate_sha_initial), ("legate/sha.rounds", laid_legate_sha_rounds)] }
def BinsAllSaid : Prop := binsAllRow.holds Tryd.pinned (OpenSpec.ofChange binsAllSpec)

/-- ITS FALSE NEIGHBOUR: 'it returns false'. Refute it at one input. -/
def binsAllWrong : ChangeSpec := { name := "binsAll", fn := fun _ => fun
  | [d1, d2] => { results := [.lit (.bool false)], args := [d1, d2] }
  | _ => none }
def BinsAllWrongFalsely : Prop := binsAllRow.holds Tryd.pinned (OpenSpec.ofChange binsAllWrong)

/-- 'legatelaw19.BinsNamed': WHATEVER THE INPUT: true; the input reads as it did. -/
def binsNamedSpec : ChangeSpec := { name := "binsNamed", fn := fun _ => fun
  | [d1, d2, d3] => { results := [.lit (.bool true)], args := [d1, d2, d3] }
  | _ => none }
def binsNamedRow : OpenClaim := { program := "ytflfmacfodkedaadoor", sum := "8458081bd8d574ae12dac3ad9221bc021bb2014ddf7002b5d50e4835db5b05b5", func := "legate/legatelaw19.BinsNamed", spec := "binsNamed", inPlace := ["internal/abi.NoEscape", "internal/bytealg.MakeNoZero"], named := ["legate/sha.initial", "legate/sha.rounds", "legate/hex.digits"], apart := false, laid := [("legate/hex.digits", laid_legate_hex_digits), ("legate/sha.initial", laid_legate_sha_initial), ("legate/sha.rounds", laid_legate_sha_rounds)] }
def BinsNamedSaid : Prop := binsNamedRow.holds Tryd.pinned (OpenSpec.ofChange binsNamedSpec)

/-- ITS FALSE NEIGHBOUR: 'it returns false'. Refute it at one input. -/
def binsNamedWrong : ChangeSpec := { name := "binsNamed", fn := fun _ => fun
  | [d1, d2, d3] => { results := [.lit (.bool false)], args := [d1, d2, d3] }
  | _ => none }
def BinsNamedWrongFalsely : Prop := binsNamedRow.holds Tryd.pinned (OpenSpec.ofChange binsNamedWrong)

/- THE SECOND FORM. 'bulk': how many values and letters a reading holds, each counted each time it is reached (what is shared counts as often as it is met; a slice's spare places count too). A statement '..UptoSaid' is the law's where the arguments, and the package variables that the reading takes, are together of bulk at most 1048576: NARROWER than '..Said'. Prove '..Said' where nothing that the law and all that it calls make is longer than what came in: it says more and counts as full. Else prove '..UptoSaid'. A law counts once. -/
mutual
def uptoBulk {H : Type} : DataW H → Nat
  | .lit (.string bytes) => bytes.length + 1
  | .lit _ => 1
  | .nil => 1
  | .ptr d => uptoBulk d + 1
  | .slice elems spare => uptoBulkAll elems + uptoBulkAll spare + 1
  | .agg parts => uptoBulkAll parts + 1
  | .iface _ d => uptoBulk d + 1
  | .map entries => uptoBulkEntries entries + 1
  | .held _ => 1
def uptoBulkAll {H : Type} : List (DataW H) → Nat
  | [] => 0
  | d :: r => uptoBulk d + uptoBulkAll r
def uptoBulkEntries {H : Type} : List (Lit × DataW H) → Nat
  | [] => 0
  | x :: r => uptoBulkEntry x + uptoBulkEntries r
def uptoBulkEntry {H : Type} : Lit × DataW H → Nat
  | (.string bytes, d) => bytes.length + uptoBulk d + 1
  | (_, d) => uptoBulk d + 1
 end
def uptoSmall : (H : Type) → List (DataW H) → Bool := fun _ ds => decide (uptoBulkAll ds ≤ 1048576)
def OpenSpec.upto (s : _root_.Go.ChangeSpec) : _root_.Go.OpenSpec := { _root_.Go.OpenSpec.ofChange s with cond := some uptoSmall }

/-- 'legatelaw19.BinsPaths', WHERE WHAT IT READS IS OF BULK AT MOST 1048576: true; the input reads as it did. -/
def binsPathsUptoRow : OpenClaim := { program := "ytflfmacfodkedaadoor", sum := "8458081bd8d574ae12dac3ad9221bc021bb2014ddf7002b5d50e4835db5b05b5", func := "legate/legatelaw19.BinsPaths", spec := "binsPaths", inPlace := ["internal/abi.NoEscape", "internal/bytealg.MakeNoZero"], named := ["legate/sha.initial", "legate/sha.rounds", "legate/hex.digits"], apart := false, laid := [("legate/hex.digits", laid_legate_hex_digits), ("legate/sha.initial", laid_legate_sha_initial), ("legate/sha.rounds", laid_legate_sha_rounds)], narrowed := true }
def BinsPathsUptoSaid : Prop := binsPathsUptoRow.holds Tryd.pinned (OpenSpec.upto binsPathsSpec)

/-- 'legatelaw19.BinsRoles', WHERE WHAT IT READS IS OF BULK AT MOST 1048576: true; the input reads as it did. -/
def binsRolesUptoRow : OpenClaim := { program := "ytflfmacfodkedaadoor", sum := "8458081bd8d574ae12dac3ad9221bc021bb2014ddf7002b5d50e4835db5b05b5", func := "legate/legatelaw19.BinsRoles", spec := "binsRoles", inPlace := ["internal/abi.NoEscape", "internal/bytealg.MakeNoZero"], named := ["legate/sha.initial", "legate/sha.rounds", "legate/hex.digits"], apart := false, laid := [("legate/hex.digits", laid_legate_hex_digits), ("legate/sha.initial", laid_legate_sha_initial), ("legate/sha.rounds", laid_legate_sha_rounds)], narrowed := true }
def BinsRolesUptoSaid : Prop := binsRolesUptoRow.holds Tryd.pinned (OpenSpec.upto binsRolesSpec)

/-- 'legatelaw19.BinsNames', WHERE WHAT IT READS IS OF BULK AT MOST 1048576: true; the input reads as it did. -/
def binsNamesUptoRow : OpenClaim := { program := "ytflfmacfodkedaadoor", sum := "8458081bd8d574ae12dac3ad9221bc021bb2014ddf7002b5d50e4835db5b05b5", func := "legate/legatelaw19.BinsNames", spec := "binsNames", inPlace := ["internal/abi.NoEscape", "internal/bytealg.MakeNoZero"], named := ["legate/sha.initial", "legate/sha.rounds", "legate/hex.digits"], apart := false, laid := [("legate/hex.digits", laid_legate_hex_digits), ("legate/sha.initial", laid_legate_sha_initial), ("legate/sha.rounds", laid_legate_sha_rounds)], narrowed := true }
def BinsNamesUptoSaid : Prop := binsNamesUptoRow.holds Tryd.pinned (OpenSpec.upto binsNamesSpec)

/-- 'legatelaw19.BinsOne', WHERE WHAT IT READS IS OF BULK AT MOST 1048576: true; the input reads as it did. -/
def binsOneUptoRow : OpenClaim := { program := "ytflfmacfodkedaadoor", sum := "8458081bd8d574ae12dac3ad9221bc021bb2014ddf7002b5d50e4835db5b05b5", func := "legate/legatelaw19.BinsOne", spec := "binsOne", inPlace := ["internal/abi.NoEscape", "internal/bytealg.MakeNoZero"], named := ["legate/sha.initial", "legate/sha.rounds", "legate/hex.digits"], apart := false, laid := [("legate/hex.digits", laid_legate_hex_digits), ("legate/sha.initial", laid_legate_sha_initial), ("legate/sha.rounds", laid_legate_sha_rounds)], narrowed := true }
def BinsOneUptoSaid : Prop := binsOneUptoRow.holds Tryd.pinned (OpenSpec.upto binsOneSpec)

/-- 'legatelaw19.BinsHalves', WHERE WHAT IT READS IS OF BULK AT MOST 1048576: true; the input reads as it did. -/
def binsHalvesUptoRow : OpenClaim := { program := "ytflfmacfodkedaadoor", sum := "8458081bd8d574ae12dac3ad9221bc021bb2014ddf7002b5d50e4835db5b05b5", func := "legate/legatelaw19.BinsHalves", spec := "binsHalves", inPlace := ["internal/abi.NoEscape", "internal/bytealg.MakeNoZero"], named := ["legate/sha.initial", "legate/sha.rounds", "legate/hex.digits"], apart := false, laid := [("legate/hex.digits", laid_legate_hex_digits), ("legate/sha.initial", laid_legate_sha_initial), ("legate/sha.rounds", laid_legate_sha_rounds)], narrowed := true }
def BinsHalvesUptoSaid : Prop := binsHalvesUptoRow.holds Tryd.pinned (OpenSpec.upto binsHalvesSpec)

/-- 'legatelaw19.BinsLonger', WHERE WHAT IT READS IS OF BULK AT MOST 1048576: true; the input reads as it did. -/
def binsLongerUptoRow : OpenClaim := { program := "ytflfmacfodkedaadoor", sum := "8458081bd8d574ae12dac3ad9221bc021bb2014ddf7002b5d50e4835db5b05b5", func := "legate/legatelaw19.BinsLonger", spec := "binsLonger", inPlace := ["internal/abi.NoEscape", "internal/bytealg.MakeNoZero"], named := ["legate/sha.initial", "legate/sha.rounds", "legate/hex.digits"], apart := false, laid := [("legate/hex.digits", laid_legate_hex_digits), ("legate/sha.initial", laid_legate_sha_initial), ("legate/sha.rounds", laid_legate_sha_rounds)], narrowed := true }
def BinsLongerUptoSaid : Prop := binsLongerUptoRow.holds Tryd.pinned (OpenSpec.upto binsLongerSpec)

/-- 'legatelaw19.BinsAll', WHERE WHAT IT READS IS OF BULK AT MOST 1048576: true; the input reads as it did. -/
def binsAllUptoRow : OpenClaim := { program := "ytflfmacfodkedaadoor", sum := "8458081bd8d574ae12dac3ad9221bc021bb2014ddf7002b5d50e4835db5b05b5", func := "legate/legatelaw19.BinsAll", spec := "binsAll", inPlace := ["internal/abi.NoEscape", "internal/bytealg.MakeNoZero"], named := ["legate/sha.initial", "legate/sha.rounds", "legate/hex.digits"], apart := false, laid := [("legate/hex.digits", laid_legate_hex_digits), ("legate/sha.initial", laid_legate_sha_initial), ("legate/sha.rounds", laid_legate_sha_rounds)], narrowed := true }
def BinsAllUptoSaid : Prop := binsAllUptoRow.holds Tryd.pinned (OpenSpec.upto binsAllSpec)

/-- 'legatelaw19.BinsNamed', WHERE WHAT IT READS IS OF BULK AT MOST 1048576: true; the input reads as it did. -/
def binsNamedUptoRow : OpenClaim := { program := "ytflfmacfodkedaadoor", sum := "8458081bd8d574ae12dac3ad9221bc021bb2014ddf7002b5d50e4835db5b05b5", func := "legate/legatelaw19.BinsNamed", spec := "binsNamed", inPlace := ["internal/abi.NoEscape", "internal/bytealg.MakeNoZero"], named := ["legate/sha.initial", "legate/sha.rounds", "legate/hex.digits"], apart := false, laid := [("legate/hex.digits", laid_legate_hex_digits), ("legate/sha.initial", laid_legate_sha_initial), ("legate/sha.rounds", laid_legate_sha_rounds)], narrowed := true }
def BinsNamedUptoSaid : Prop := binsNamedUptoRow.holds Tryd.pinned (OpenSpec.upto binsNamedSpec)

end Rows
end Go.Proofs.YtflfmacfodkedaaDoor
