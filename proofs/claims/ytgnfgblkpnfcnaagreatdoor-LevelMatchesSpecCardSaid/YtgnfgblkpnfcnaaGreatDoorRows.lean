/-
  NARROWER THAN 'FOR EVERY INPUT', by the rows' own cells (each row's printed sentence says how): LevelMatchesSpec: laid · LevelPicksMatchSpec: laid · LevelContains: laid · LevelLimits: laid · LevelIsLocal: laid.
  DERIVED. THE GIVEN ROWS OF THIS SEAT. 5 by the template 'for every input the law returns true; each argument reads behind the call as it read before'; 0 by the template 'total and deterministic' (their statements: YtgnfgblkpnfcnaaGreatDoorTotals.lean).
  GIVEN WITH THE SEED: the statements are not yours to turn. If you find one false, say at which input.
  Laid BY PROGRAM, IN A SANDBOX (cutbox-rows.mjs): the forced cells as the released guide's own fill.sh prints them over the translation f753e826093e5cd5… (all of the seat's roots in one cut). By AI agents, Wed Nov 11 2026. No macro, syntax, notation, axiom, sorry.
-/
import Derived.Test.YtgnfgblkpnfcnaaGreatDoorChecked
import GoSem.Claim
import GoSem.ClaimJoined
import GoSem.ClaimMapViews
import Derived.JoinedTies
import Derived.KernelRfl
namespace Go.Proofs.YtgnfgblkpnfcnaaGreatDoor
/- THE CELL 'sum', in the pinned program and in every row, IS THE sha256 OF THE DUMP (.gsa) THAT YtgnfgblkpnfcnaaGreatDoorProg.lean LOADS. Nothing in Lean hashes anything: it is a label: what it is worth is what the hold of that sum in a sandbox is worth. -/
noncomputable def Tryz.pinned : Pinned := { name := "ytgnfgblkpnfcnaagreatdoor", sum := "f753e826093e5cd549c232ce6d69113494848c81b6bf9fd206bea1379ef039b0", checked := Tryz.checked }
namespace Rows
def none {H : Type} : Left H := { results := [], args := [] }

/- WHAT THE LISTED PACKAGE-LEVEL VARIABLES READ AS WHEN THE CALL BEGINS. Each datum BY PROGRAM (the guide's laid-datum.mjs) off the statement by which the dump's own 'gosem.cut.vars' lays the variable. In a bare row this is a premise. The card (YtgnfgblkpnfcnaaGreatDoorCards.lean) ties it to the program's text. -/
def laid_voxel_voxelref02_constants {H : Type} : DataW H := .agg [.lit (.int .u32 1116352408), .lit (.int .u32 1899447441), .lit (.int .u32 3049323471), .lit (.int .u32 3921009573), .lit (.int .u32 961987163), .lit (.int .u32 1508970993), .lit (.int .u32 2453635748), .lit (.int .u32 2870763221), .lit (.int .u32 3624381080), .lit (.int .u32 310598401), .lit (.int .u32 607225278), .lit (.int .u32 1426881987), .lit (.int .u32 1925078388), .lit (.int .u32 2162078206), .lit (.int .u32 2614888103), .lit (.int .u32 3248222580), .lit (.int .u32 3835390401), .lit (.int .u32 4022224774), .lit (.int .u32 264347078), .lit (.int .u32 604807628), .lit (.int .u32 770255983), .lit (.int .u32 1249150122), .lit (.int .u32 1555081692), .lit (.int .u32 1996064986), .lit (.int .u32 2554220882), .lit (.int .u32 2821834349), .lit (.int .u32 2952996808), .lit (.int .u32 3210313671), .lit (.int .u32 3336571891), .lit (.int .u32 3584528711), .lit (.int .u32 113926993), .lit (.int .u32 338241895), .lit (.int .u32 666307205), .lit (.int .u32 773529912), .lit (.int .u32 1294757372), .lit (.int .u32 1396182291), .lit (.int .u32 1695183700), .lit (.int .u32 1986661051), .lit (.int .u32 2177026350), .lit (.int .u32 2456956037), .lit (.int .u32 2730485921), .lit (.int .u32 2820302411), .lit (.int .u32 3259730800), .lit (.int .u32 3345764771), .lit (.int .u32 3516065817), .lit (.int .u32 3600352804), .lit (.int .u32 4094571909), .lit (.int .u32 275423344), .lit (.int .u32 430227734), .lit (.int .u32 506948616), .lit (.int .u32 659060556), .lit (.int .u32 883997877), .lit (.int .u32 958139571), .lit (.int .u32 1322822218), .lit (.int .u32 1537002063), .lit (.int .u32 1747873779), .lit (.int .u32 1955562222), .lit (.int .u32 2024104815), .lit (.int .u32 2227730452), .lit (.int .u32 2361852424), .lit (.int .u32 2428436474), .lit (.int .u32 2756734187), .lit (.int .u32 3204031479), .lit (.int .u32 3329325298)]
def laid_voxel_hash_constants {H : Type} : DataW H := .agg [.lit (.int .u32 1116352408), .lit (.int .u32 1899447441), .lit (.int .u32 3049323471), .lit (.int .u32 3921009573), .lit (.int .u32 961987163), .lit (.int .u32 1508970993), .lit (.int .u32 2453635748), .lit (.int .u32 2870763221), .lit (.int .u32 3624381080), .lit (.int .u32 310598401), .lit (.int .u32 607225278), .lit (.int .u32 1426881987), .lit (.int .u32 1925078388), .lit (.int .u32 2162078206), .lit (.int .u32 2614888103), .lit (.int .u32 3248222580), .lit (.int .u32 3835390401), .lit (.int .u32 4022224774), .lit (.int .u32 264347078), .lit (.int .u32 604807628), .lit (.int .u32 770255983), .lit (.int .u32 1249150122), .lit (.int .u32 1555081692), .lit (.int .u32 1996064986), .lit (.int .u32 2554220882), .lit (.int .u32 2821834349), .lit (.int .u32 2952996808), .lit (.int .u32 3210313671), .lit (.int .u32 3336571891), .lit (.int .u32 3584528711), .lit (.int .u32 113926993), .lit (.int .u32 338241895), .lit (.int .u32 666307205), .lit (.int .u32 773529912), .lit (.int .u32 1294757372), .lit (.int .u32 1396182291), .lit (.int .u32 1695183700), .lit (.int .u32 1986661051), .lit (.int .u32 2177026350), .lit (.int .u32 2456956037), .lit (.int .u32 2730485921), .lit (.int .u32 2820302411), .lit (.int .u32 3259730800), .lit (.int .u32 3345764771), .lit (.int .u32 3516065817), .lit (.int .u32 3600352804), .lit (.int .u32 4094571909), .lit (.int .u32 275423344), .lit (.int .u32 430227734), .lit (.int .u32 506948616), .lit (.int .u32 659060556), .lit (.int .u32 883997877), .lit (.int .u32 958139571), .lit (.int .u32 1322822218), .lit (.int .u32 1537002063), .lit (.int .u32 1747873779), .lit (.int .u32 1955562222), .lit (.int .u32 2024104815), .lit (.int .u32 2227730452), .lit (.int .u32 2361852424), .lit (.int .u32 2428436474), .lit (.int .u32 2756734187), .lit (.int .u32 3204031479), .lit (.int .u32 3329325298)]

/-- 'voxellaw12.LevelMatchesSpec': WHATEVER THE INPUT: true; the input reads as it did. -/
def levelMatchesSpecSpec : ChangeSpec := { name := "levelMatchesSpec", fn := fun _ => fun
  | [d1, d2, d3, d4, d5] => { results := [.lit (.bool true)], args := [d1, d2, d3, d4, d5] }
  | _ => none }
def levelMatchesSpecRow : OpenClaim := { program := "ytgnfgblkpnfcnaagreatdoor", sum := "f753e826093e5cd549c232ce6d69113494848c81b6bf9fd206bea1379ef039b0", func := "voxel/voxellaw12.LevelMatchesSpec", spec := "levelMatchesSpec", unfollowed := true, recurses := true, named := ["voxel/hash.constants", "voxel/voxelref02.constants"], plainKeys := false, apart := false, laid := [("voxel/voxelref02.constants", laid_voxel_voxelref02_constants), ("voxel/hash.constants", laid_voxel_hash_constants)] }
def LevelMatchesSpecSaid : Prop := levelMatchesSpecRow.holds Tryz.pinned (OpenSpec.ofChange levelMatchesSpecSpec)

/-- ITS FALSE NEIGHBOUR: 'it returns false'. Refute it at one input. -/
def levelMatchesSpecWrong : ChangeSpec := { name := "levelMatchesSpec", fn := fun _ => fun
  | [d1, d2, d3, d4, d5] => { results := [.lit (.bool false)], args := [d1, d2, d3, d4, d5] }
  | _ => none }
def LevelMatchesSpecWrongFalsely : Prop := levelMatchesSpecRow.holds Tryz.pinned (OpenSpec.ofChange levelMatchesSpecWrong)

/-- 'voxellaw12.LevelPicksMatchSpec': WHATEVER THE INPUT: true; the input reads as it did. -/
def levelPicksMatchSpecSpec : ChangeSpec := { name := "levelPicksMatchSpec", fn := fun _ => fun
  | [d1, d2] => { results := [.lit (.bool true)], args := [d1, d2] }
  | _ => none }
def levelPicksMatchSpecRow : OpenClaim := { program := "ytgnfgblkpnfcnaagreatdoor", sum := "f753e826093e5cd549c232ce6d69113494848c81b6bf9fd206bea1379ef039b0", func := "voxel/voxellaw12.LevelPicksMatchSpec", spec := "levelPicksMatchSpec", unfollowed := true, recurses := true, named := ["voxel/hash.constants"], plainKeys := false, apart := false, laid := [("voxel/hash.constants", laid_voxel_hash_constants)] }
def LevelPicksMatchSpecSaid : Prop := levelPicksMatchSpecRow.holds Tryz.pinned (OpenSpec.ofChange levelPicksMatchSpecSpec)

/-- ITS FALSE NEIGHBOUR: 'it returns false'. Refute it at one input. -/
def levelPicksMatchSpecWrong : ChangeSpec := { name := "levelPicksMatchSpec", fn := fun _ => fun
  | [d1, d2] => { results := [.lit (.bool false)], args := [d1, d2] }
  | _ => none }
def LevelPicksMatchSpecWrongFalsely : Prop := levelPicksMatchSpecRow.holds Tryz.pinned (OpenSpec.ofChange levelPicksMatchSpecWrong)

/-- 'voxellaw12.LevelContains': WHATEVER THE INPUT: true; the input reads as it did. -/
def levelContainsSpec : ChangeSpec := { name := "levelContains", fn := fun _ => fun
  | [d1, d2, d3, d4, d5] => { results := [.lit (.bool true)], args := [d1, d2, d3, d4, d5] }
  | _ => none }
def levelContainsRow : OpenClaim := { program := "ytgnfgblkpnfcnaagreatdoor", sum := "f753e826093e5cd549c232ce6d69113494848c81b6bf9fd206bea1379ef039b0", func := "voxel/voxellaw12.LevelContains", spec := "levelContains", unfollowed := true, recurses := true, named := ["voxel/hash.constants"], plainKeys := false, apart := false, laid := [("voxel/hash.constants", laid_voxel_hash_constants)] }
def LevelContainsSaid : Prop := levelContainsRow.holds Tryz.pinned (OpenSpec.ofChange levelContainsSpec)

/-- ITS FALSE NEIGHBOUR: 'it returns false'. Refute it at one input. -/
def levelContainsWrong : ChangeSpec := { name := "levelContains", fn := fun _ => fun
  | [d1, d2, d3, d4, d5] => { results := [.lit (.bool false)], args := [d1, d2, d3, d4, d5] }
  | _ => none }
def LevelContainsWrongFalsely : Prop := levelContainsRow.holds Tryz.pinned (OpenSpec.ofChange levelContainsWrong)

/-- 'voxellaw12.LevelLimits': WHATEVER THE INPUT: true; the input reads as it did. -/
def levelLimitsSpec : ChangeSpec := { name := "levelLimits", fn := fun _ => fun
  | [d1, d2, d3, d4] => { results := [.lit (.bool true)], args := [d1, d2, d3, d4] }
  | _ => none }
def levelLimitsRow : OpenClaim := { program := "ytgnfgblkpnfcnaagreatdoor", sum := "f753e826093e5cd549c232ce6d69113494848c81b6bf9fd206bea1379ef039b0", func := "voxel/voxellaw12.LevelLimits", spec := "levelLimits", unfollowed := true, recurses := true, named := ["voxel/hash.constants"], plainKeys := false, apart := false, laid := [("voxel/hash.constants", laid_voxel_hash_constants)] }
def LevelLimitsSaid : Prop := levelLimitsRow.holds Tryz.pinned (OpenSpec.ofChange levelLimitsSpec)

/-- ITS FALSE NEIGHBOUR: 'it returns false'. Refute it at one input. -/
def levelLimitsWrong : ChangeSpec := { name := "levelLimits", fn := fun _ => fun
  | [d1, d2, d3, d4] => { results := [.lit (.bool false)], args := [d1, d2, d3, d4] }
  | _ => none }
def LevelLimitsWrongFalsely : Prop := levelLimitsRow.holds Tryz.pinned (OpenSpec.ofChange levelLimitsWrong)

/-- 'voxellaw12.LevelIsLocal': WHATEVER THE INPUT: true; the input reads as it did. -/
def levelIsLocalSpec : ChangeSpec := { name := "levelIsLocal", fn := fun _ => fun
  | [d1, d2, d3, d4, d5, d6, d7] => { results := [.lit (.bool true)], args := [d1, d2, d3, d4, d5, d6, d7] }
  | _ => none }
def levelIsLocalRow : OpenClaim := { program := "ytgnfgblkpnfcnaagreatdoor", sum := "f753e826093e5cd549c232ce6d69113494848c81b6bf9fd206bea1379ef039b0", func := "voxel/voxellaw12.LevelIsLocal", spec := "levelIsLocal", unfollowed := true, recurses := true, named := ["voxel/hash.constants"], plainKeys := false, apart := false, laid := [("voxel/hash.constants", laid_voxel_hash_constants)] }
def LevelIsLocalSaid : Prop := levelIsLocalRow.holds Tryz.pinned (OpenSpec.ofChange levelIsLocalSpec)

/-- ITS FALSE NEIGHBOUR: 'it returns false'. Refute it at one input. -/
def levelIsLocalWrong : ChangeSpec := { name := "levelIsLocal", fn := fun _ => fun
  | [d1, d2, d3, d4, d5, d6, d7] => { results := [.lit (.bool false)], args := [d1, d2, d3, d4, d5, d6, d7] }
  | _ => none }
def LevelIsLocalWrongFalsely : Prop := levelIsLocalRow.holds Tryz.pinned (OpenSpec.ofChange levelIsLocalWrong)

/- THE SECOND FORM. 'bulk': how many values and letters a reading holds, each counted each time it is reached (what is shared counts as often as it is met; a slice's spare places count too). A statement '..UptoSaid' is the law's where the arguments, and the package variables that the reading takes, are together of bulk at most 1048576: NARROWER than '..Said'. Prove '..Said' where nothing that the law and all that it calls make is longer than what came in: it says more and counts as full. Else prove '..UptoSaid'. A law counts once. -/
mutual
def uptoBulk {H : Type} : DataW H → Nat
  | .lit (.string bytes) => bytes.length + 1
  | .lit _ => 1
  | .nil => 1
  | .ptr d => uptoBulk d + 1
  | .slice elems spare => uptoBulkAll elems + uptoBulkAll spare + 1
  | .agg parts => uptoBulkAll parts + 1
  | .iface _ d => uptoBulk d + 1
  | .map entries => uptoBulkEntries entries + 1
  | .held _ => 1
def uptoBulkAll {H : Type} : List (DataW H) → Nat
  | [] => 0
  | d :: r => uptoBulk d + uptoBulkAll r
def uptoBulkEntries {H : Type} : List (Lit × DataW H) → Nat
  | [] => 0
  | x :: r => uptoBulkEntry x + uptoBulkEntries r
def uptoBulkEntry {H : Type} : Lit × DataW H → Nat
  | (.string bytes, d) => bytes.length + uptoBulk d + 1
  | (_, d) => uptoBulk d + 1
 end
def uptoSmall : (H : Type) → List (DataW H) → Bool := fun _ ds => decide (uptoBulkAll ds ≤ 1048576)
def OpenSpec.upto (s : _root_.Go.ChangeSpec) : _root_.Go.OpenSpec := { _root_.Go.OpenSpec.ofChange s with cond := some uptoSmall }

/-- 'voxellaw12.LevelMatchesSpec', WHERE WHAT IT READS IS OF BULK AT MOST 1048576: true; the input reads as it did. -/
def levelMatchesSpecUptoRow : OpenClaim := { program := "ytgnfgblkpnfcnaagreatdoor", sum := "f753e826093e5cd549c232ce6d69113494848c81b6bf9fd206bea1379ef039b0", func := "voxel/voxellaw12.LevelMatchesSpec", spec := "levelMatchesSpec", unfollowed := true, recurses := true, named := ["voxel/hash.constants", "voxel/voxelref02.constants"], plainKeys := false, apart := false, laid := [("voxel/voxelref02.constants", laid_voxel_voxelref02_constants), ("voxel/hash.constants", laid_voxel_hash_constants)], narrowed := true }
def LevelMatchesSpecUptoSaid : Prop := levelMatchesSpecUptoRow.holds Tryz.pinned (OpenSpec.upto levelMatchesSpecSpec)

/-- 'voxellaw12.LevelPicksMatchSpec', WHERE WHAT IT READS IS OF BULK AT MOST 1048576: true; the input reads as it did. -/
def levelPicksMatchSpecUptoRow : OpenClaim := { program := "ytgnfgblkpnfcnaagreatdoor", sum := "f753e826093e5cd549c232ce6d69113494848c81b6bf9fd206bea1379ef039b0", func := "voxel/voxellaw12.LevelPicksMatchSpec", spec := "levelPicksMatchSpec", unfollowed := true, recurses := true, named := ["voxel/hash.constants"], plainKeys := false, apart := false, laid := [("voxel/hash.constants", laid_voxel_hash_constants)], narrowed := true }
def LevelPicksMatchSpecUptoSaid : Prop := levelPicksMatchSpecUptoRow.holds Tryz.pinned (OpenSpec.upto levelPicksMatchSpecSpec)

/-- 'voxellaw12.LevelContains', WHERE WHAT IT READS IS OF BULK AT MOST 1048576: true; the input reads as it did. -/
def levelContainsUptoRow : OpenClaim := { program := "ytgnfgblkpnfcnaagreatdoor", sum := "f753e826093e5cd549c232ce6d69113494848c81b6bf9fd206bea1379ef039b0", func := "voxel/voxellaw12.LevelContains", spec := "levelContains", unfollowed := true, recurses := true, named := ["voxel/hash.constants"], plainKeys := false, apart := false, laid := [("voxel/hash.constants", laid_voxel_hash_constants)], narrowed := true }
def LevelContainsUptoSaid : Prop := levelContainsUptoRow.holds Tryz.pinned (OpenSpec.upto levelContainsSpec)

/-- 'voxellaw12.LevelLimits', WHERE WHAT IT READS IS OF BULK AT MOST 1048576: true; the input reads as it did. -/
def levelLimitsUptoRow : OpenClaim := { program := "ytgnfgblkpnfcnaagreatdoor", sum := "f753e826093e5cd549c232ce6d69113494848c81b6bf9fd206bea1379ef039b0", func := "voxel/voxellaw12.LevelLimits", spec := "levelLimits", unfollowed := true, recurses := true, named := ["voxel/hash.constants"], plainKeys := false, apart := false, laid := [("voxel/hash.constants", laid_voxel_hash_constants)], narrowed := true }
def LevelLimitsUptoSaid : Prop := levelLimitsUptoRow.holds Tryz.pinned (OpenSpec.upto levelLimitsSpec)

/-- 'voxellaw12.LevelIsLocal', WHERE WHAT IT READS IS OF BULK AT MOST 1048576: true; the input reads as it did. -/
def levelIsLocalUptoRow : OpenClaim := { program := "ytgnfgblkpnfcnaagreatdoor", sum := "f753e826093e5cd549c232ce6d69113494848c81b6bf9fd206bea1379ef039b0", func := "voxel/voxellaw12.LevelIsLocal", spec := "levelIsLocal", unfollowed := true, recurses := true, named := ["voxel/hash.constants"], plainKeys := false, apart := false, laid := [("voxel/hash.constants", laid_voxel_hash_constants)], narrowed := true }
def LevelIsLocalUptoSaid : Prop := levelIsLocalUptoRow.holds Tryz.pinned (OpenSpec.upto levelIsLocalSpec)

end Rows
end Go.Proofs.YtgnfgblkpnfcnaaGreatDoor
