import Derived.Test.YthoihfighiolmaaGreatPt7
set_option linter.unusedSectionVars false
set_option linter.unusedSimpArgs false
set_option linter.unusedVariables false
namespace Go.Eng
theorem alL{n off:Nat}{cs:List Value}:ld true n off cs= .agg ((cs.drop off).take n).toArray:=rfl
theorem ak1{n off:Nat}{cs:List Value}:ld false n off cs=(cs.drop off).headD undef:=rfl
attribute [go_sem] alL ak1 u6 qQ zm leR leL true_or or_true false_or or_false and_self
structure GID where
 node:UInt8
 inc:UInt16
 seq:UInt32
deriving DecidableEq
structure GAsk where
 id:GID
 frm:UInt8
 left:UInt8
deriving DecidableEq
def GID.enc(x:GID):List Value:=[.int .u8 x.node.toNat,.int .u16 x.inc.toNat,.int .u32 x.seq.toNat]
def GID.val(x:GID):Value:=.agg #[.int .u8 x.node.toNat,.int .u16 x.inc.toNat,.int .u32 x.seq.toNat]
def GAsk.enc(x:GAsk):List Value:=[.int .u8 x.id.node.toNat,.int .u16 x.id.inc.toNat,.int .u32 x.id.seq.toNat,.int .u8 x.frm.toNat,.int .u8 x.left.toNat]
def GAsk.val(x:GAsk):Value:=.agg #[.int .u8 x.id.node.toNat,.int .u16 x.id.inc.toNat,.int .u32 x.id.seq.toNat,.int .u8 x.frm.toNat,.int .u8 x.left.toNat]
def GID.key(x:GID):Nat:=x.node.toNat*281474976710656+x.inc.toNat*4294967296+x.seq.toNat
theorem GID.bd(x:GID):x.node.toNat<256/\x.inc.toNat<65536/\x.seq.toNat<4294967296:=⟨x.node.toNat_lt,x.inc.toNat_lt,x.seq.toNat_lt⟩
def GID.less(x y:GID):Bool:=decide (x.key<y.key)
theorem GAsk.cells(x:GAsk):x.val.cells.toList=x.enc:=rfl
theorem GID.cells(x:GID):x.val.cells.toList=x.enc:=rfl
theorem GID.ones(xs:List GID):bl (xs.map GID.enc):=by intro y hy;obtain⟨x,_,rfl⟩:=List.mem_map.1 hy;rfl
theorem GAsk.ones(xs:List GAsk):bl (xs.map GAsk.enc):=by intro y hy;obtain⟨x,_,rfl⟩:=List.mem_map.1 hy;rfl
theorem ahm{α β:Type}{f:α->β}{xs:List α}{k:Nat}{x:α}(h:xs[k]? =some x):(xs.map f)[k]? =some (f x):=by simp[h]
