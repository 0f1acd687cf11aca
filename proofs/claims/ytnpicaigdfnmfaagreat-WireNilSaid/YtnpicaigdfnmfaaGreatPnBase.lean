/- Base, Mod, Spc, SpcW, Slv, Rsp in one text. -/
import Derived.WalkKit
import Derived.RowKit3
import Derived.Lib.Hide
import Derived.Laws.BytesArg
import Derived.Laws.IdiomStrings
import Derived.Laws.BitsAllLaws
import Derived.Laws.Bits64
import Derived.Laws.OwnMore
import Derived.OwnWalk
import Derived.WalkSmall
import Derived.Lib.IndexBytes
import Derived.Maps.RangeWalk
import Derived.Laws.Rows
import Derived.Test.YtnpicaigdfnmfaaGreatProg
import Derived.LoopTactic
import Derived.WalkSpells
import Derived.WalkLawsBesides
import Derived.Outline
import Derived.Maps.OwnSet
import Derived.ArgAppend
import Derived.Deep.AppendLies
import Derived.Test.YtnpicaigdfnmfaaGreatPnZa
set_option linter.unusedVariables false
set_option linter.unusedSimpArgs false
set_option maxRecDepth 100000
set_option maxHeartbeats 16000000
open Go.Proofs.Tryz
namespace Go.Proofs.YtnpicaigdfnmfaaGreat
open Go.RowKit
theorem bQ{a b c:World}(h:Below a.heap.size a b)(k:Below b.heap.size b c):Below a.heap.size a c:=h.trans (k.mono h.size)
theorem ret_int{k:IntKind}{a b:Int}(h:a=b):Ending.returned (.int k a)=.returned (.int k b):=by rw[h]
theorem ret_str{a b:ByteArray}(h:a=b):Ending.returned (.string a)=.returned (.string b):=by rw[h]
theorem ret_ie{k:IntKind}{a b c:Int}(h:a=b):Ending.returned (.tuple #[.int k a,.int .i64 c])=.returned (.tuple #[.int k b,.int .i64 c]):=by rw[h]
def nums(s:ByteArray):List Int:=s.data.toList.map fun b=>(b.toNat:Int)
theorem nums_length(s:ByteArray):(nums s).length=s.size:=by
 unfold nums;rw[List.length_map,Array.length_toList];rfl
theorem nums_strOfNums(xs:List Int)(h:∀x,x∈xs→0≤x∧x<256):nums (strOfNums xs)=xs:=by
 unfold nums;rw[strOfNums_data,List.map_map]
 conv=>rhs;rw[←List.map_id xs]
 apply List.map_congr_left
 intro x hx;have:=h x hx
 show((UInt8.ofNat x.toNat).toNat:Int)=x
 rw[UInt8.toNat_ofNat'];omega
theorem nums_bd(s:ByteArray):∀x,x∈nums s→0≤x∧x<256:=by
 intro x hx;simp only[nums,List.mem_map] at hx;obtain⟨b,_,rfl⟩:=hx;exact⟨by omega,by have:=b.toNat_lt;omega⟩
theorem nums_at(s:ByteArray)(j:Nat)(hj:j<s.data.size):(nums s).getD j 0=(s.data[j].toNat:Int):=by
 simp only[nums,List.getD];rw[List.getElem?_map,Zg (by simpa using hj)]
 simp
theorem nums_get(s:ByteArray)(j:Nat)(hj:j<s.size):((s[j]'hj).toNat:Int)=(nums s).getD j 0:=(nums_at s j hj).symm
def Row8(w:World)(b:Nat)(xs:List Int):Prop:=∀i,i<xs.length→w.cell? ⟨b,0+i,none⟩=some (.int .u8 (xs.getD i 0))
theorem row8_of2{w:World}{b:Nat}{x y:Int}(h0:w.cell? ⟨b,0,none⟩=some (.int .u8 x))(h1:w.cell? ⟨b,1,none⟩=some (.int .u8 y)):Row8 w b [x,y]:=by
 intro i hi;have:i=0∨i=1:=by simp at hi;omega
 rcases this with rfl|rfl
 ·simpa using h0
 ·simpa using h1
theorem fresh_bytes(w:World)(s:ByteArray)(c j:Nat)(t:TypeId)(fr:Nat×Nat)(hj:j<s.size):(w.alloc (.cells (bytesRow s c) t fr)).drew.cell? ⟨w.heap.size,j,none⟩=some (.int .u8 ((nums s).getD j 0)):=by
 have h:=World.cell?_alloc_mark w (bytesRow s c) t fr j;rw[nums_at s j hj,←bytesRow_at s c j hj];exact h
theorem fresh_free(w:World)(s:ByteArray)(c j:Nat)(t:TypeId)(hj:j<s.size):(w.alloc (.cells (bytesRow s c) t ((bytesRow s c).size,(bytesRow s c).size+1))).drew.frozen? ⟨w.heap.size,j,none⟩=false:=by
 have h:=World.frozen?_alloc_mark w (bytesRow s c) t (bytesRow s c).size ((bytesRow s c).size+1) j;have e:decide ((bytesRow s c).size≤j)=false:=by
  apply decide_eq_false
  have:s.data.size≤(bytesRow s c).size:=by simp[bytesRow]
  have:s.size=s.data.size:=rfl;omega
 rw[e,Bool.false_and] at h;exact h
theorem cells4(w:World)(a b c d:Value)(t:TypeId)(i:Nat):(w.alloc (.cells #[a,b,c,d] t)).cell? ⟨w.heap.size,0+i,none⟩=[a,b,c,d][i]? :=by
 rw[World.cell?_alloc_mark];simp
def Buf(w:World)(base:Nat)(e:TypeId)(v:Value)(xs:List Int):Prop:=w.ownsRow base e 1 v xs.length (xs.map (Value.int .u8))
theorem Buf.nil(w:World)(base:Nat)(e:TypeId):Buf w base e (.slice none 0 0) []:=World.ownsRow_nil _ _ _ _
theorem Buf.lt{w:World}{base:Nat}{e:TypeId}{v:Value}{xs:List Int}(h:Buf w base e v xs):∀k,v.ownBlock=some k→base≤k:=fun k hk=>(World.ownsRow.lt h k hk).1
theorem Buf.string{P:Program}{w:World}{base:Nat}{e:TypeId}{v:Value}{xs:List Int}(h:Buf w base e v xs)(src dst:TypeId)(hs:P.underlying src=some (.slice e))(he:P.underlying e=some (.int .u8))(hd:P.underlying dst=some .string):
  (convert src dst v).run P w=.ok (.string (strOfNums xs)) w:=by
 have h0:=h;rcases h.2 with⟨rfl,hn⟩|⟨g,cap,cur,rfl,_⟩
 ·have:xs=[]:=List.length_eq_zero_iff.1 hn;subst this;exact run_convert_bytes_nil w src e hs he 0 0 dst hd
 ·refine run_convert_bytes_arg w src e hs he g 0 xs.length cap xs rfl (fun i hi=> ?_) dst hd;rw[Nat.zero_add,World.ownsRow.cellAt h0 i (by omega),List.getElem?_map,List.getD,Zg hi];rfl
theorem Buf.app{w:World}{base:Nat}{e:TypeId}{v:Value}{xs ys:List Int}{n:Nat}(h:w.ownsRow base e 1 v n (xs.map (Value.int .u8)++ys.map (Value.int .u8))):Buf w base e v (xs++ys):=by
 have hl:=h.1;unfold Buf;rw[List.map_append];have:n=(xs++ys).length:=by simp at hl;simp;omega
 rw[←this];exact h
theorem nums_drop(s:ByteArray)(k:Nat):nums (s.extract k s.size)=(nums s).drop k:=by
 unfold nums;rw[Lib.extract_to_end,List.map_drop]
theorem byte_bd(b:UInt8):0≤(b.toNat:Int)∧(b.toNat:Int)<256:=by have:=b.toNat_lt;omega
structure Mod(F:Nat→Prop)(w w':World):Prop where
 os:w'.os=w.os
 tape:w'.tape=w.tape
 output:w'.output=w.output
 size:w.heap.size≤w'.heap.size
 block:∀k,k<w.heap.size→¬F k→w'.heap[k]? =w.heap[k]?
theorem Mod.refl(F:Nat→Prop)(w:World):Mod F w w:=⟨rfl,rfl,rfl,Nat.le_refl _,fun _ _ _=>rfl⟩
theorem Mod.of_below{w w':World}(h:Below w.heap.size w w')(F:Nat→Prop):Mod F w w':=⟨h.os,h.tape,h.output,h.size,fun k hk _=>h.block k hk⟩
theorem Mod.trans{F G:Nat→Prop}{a b c:World}(h:Mod F a b)(k:Mod G b c)(hg:∀i,i<b.heap.size→G i→F i∨a.heap.size≤i):Mod F a c:=
 ⟨k.os.trans h.os,k.tape.trans h.tape,k.output.trans h.output,Nat.le_trans h.size k.size,fun i hi hf=>
  (k.block i (Nat.lt_of_lt_of_le hi h.size) (fun g=>by
   rcases hg i (Nat.lt_of_lt_of_le hi h.size) g with g|g
   ·exact hf g
   ·omega)).trans (h.block i hi hf)⟩
theorem Mod.mono{F G:Nat→Prop}{w w':World}(h:Mod F w w')(hf:∀i,i<w.heap.size→F i→G i):Mod G w w':=⟨h.os,h.tape,h.output,h.size,fun k hk hn=>h.block k hk fun g=>hn (hf k hk g)⟩
theorem Mod.same{F:Nat→Prop}{a b c:World}(h:Mod F a b)(k:Mod F b c):Mod F a c:=h.trans k fun _ _ g=>.inl g
theorem Mod.below{F:Nat→Prop}{a w w':World}{B:Nat}(k:Below B a w)(h:Mod F w w')(hB:B≤w.heap.size)(hf:∀i,i<w.heap.size→F i→B≤i):Below B a w':=
 k.trans ⟨h.os,h.tape,h.output,h.size,fun i hi=>h.block i (by omega) fun g=>by have:=hf i (by omega) g;omega⟩
theorem Mod.toBelow{w w':World}(h:Mod (fun _=>False) w w'):Below w.heap.size w w':=⟨h.os,h.tape,h.output,h.size,fun k hk=>h.block k hk id⟩
theorem Mod.drew{F:Nat→Prop}{a w:World}(h:Mod F a w):Mod F a w.drew:=⟨h.os,h.tape,h.output,h.size,h.block⟩
theorem Mod.alloc{F:Nat→Prop}{a w:World}(h:Mod F a w)(o:Obj):Mod F a (w.alloc o):=
 ⟨h.os,h.tape,h.output,Nat.le_trans h.size (by simp),fun k hk hf=>(Below.heap_alloc _ _ _ (Nat.lt_of_lt_of_le hk h.size)).trans (h.block k hk hf)⟩
theorem Mod.setCell{F:Nat→Prop}{a w:World}(h:Mod F a w)(p:Addr)(hp:F p.block∨a.heap.size≤p.block)(u:Value):Mod F a (w.setCell p u):=
 ⟨h.os,h.tape,h.output,Nat.le_trans h.size (by simp[World.setCell]),fun k hk hf=>(Below.heap_setCell _ _ _ _ (fun e=>by subst e;rcases hp with g|g;exact hf g;omega)).trans (h.block k hk hf)⟩
structure Pg where
 addr:Int
 blk:Nat
 perm:Int
 bytes:List Int
def Pg.cells(p:Pg):Array Value:=(Value.int .u8 p.perm::p.bytes.map (Value.int .u8)).toArray
structure Pg.ok(p:Pg):Prop where
 a0:0≤p.addr
 a1:p.addr<1048576
 a2:p.addr % 256=0
 p0:0≤p.perm
 p1:p.perm≤7
 len:p.bytes.length=256
 bd:∀x,x∈p.bytes→0≤x∧x<256
def ptrElem(v:Value):Option (DataW Unit×List MemPlace):=
 match v with
 | .pointer none=>some (.lit (.int .i64 (-1)),[])
 | .pointer (some ⟨b,0,none⟩)=>some (.lit (.int .i64 b),[])
 |_=>none
theorem ptrElem_inv{v:Value}{z:Int}{ps:List MemPlace}(h:ptrElem v=some (.lit (.int .i64 z),ps)):(v=.pointer none∧z= -1)∨(∃b:Nat,v=.pointer (some ⟨b,0,none⟩)∧z=b):=by
 unfold ptrElem at h
 split at h
 ·simp at h;exact .inl ⟨rfl,h.1.symm⟩
 ·simp at h;exact .inr ⟨_,rfl,h.1.symm⟩
 ·cases h
def atAddr(A:List Pg)(x:Int):Option Pg:=A.find? fun p=>p.addr == x
def pageAt(A:List Pg)(x:Int):Option Pg:=atAddr A (x - x % 256)
def pgPtr:Option Pg→Value
 |some p=>.pointer (some ⟨p.blk,0,none⟩)
 |none=>.pointer none
structure Spc(w:World)(sb mb:Nat)(A:List Pg):Prop where
 head:w.heap[sb]? =some (.cells #[.map (some mb)] 274 (0,0))
 map:∃D n,w.ownsMap Tryz.prog 42 ptrElem mb n D∧(∀x zd,D.atKey (.int .u32 x) zd=match atAddr A x with|some p=>.lit (.int .i64 p.blk)|none=>zd)∧Maps.size D=A.length
 page:∀p,p∈A→w.heap[p.blk]? =some (.cells p.cells 236 (0,0))
 ok:∀p,p∈A→p.ok
 up:A.Pairwise fun p q=>p.addr<q.addr
 blks:A.Pairwise fun p q=>p.blk≠q.blk
def Spc.foot(sb mb:Nat)(A:List Pg)(k:Nat):Prop:=k=sb∨k=mb∨∃p,p∈A∧k=p.blk
theorem lQ{w:World}{k:Nat}{o:Obj}(h:w.heap[k]? =some o):k<w.heap.size:=(Array.getElem?_eq_some_iff.1 h).1
theorem own_of_block{w w':World}{P:Program}{k:TypeId}{R:Value→Option (DataW Unit×List MemPlace)}{b n:Nat}{D:DataW Unit}(h:w.ownsMap P k R b n D)(e:w'.heap[b]? =w.heap[b]?):w'.ownsMap P k R b n D:=by
 obtain⟨es,clock,hb,rest⟩:=h;exact⟨es,clock,e.trans hb,rest⟩
theorem Spc.lt{w:World}{sb mb:Nat}{A:List Pg}(h:Spc w sb mb A){k:Nat}(hk:Spc.foot sb mb A k):k<w.heap.size:=by
 rcases hk with rfl|rfl|⟨p,hp,rfl⟩
 ·exact lQ h.head
 ·obtain⟨D,n,ho,_⟩:=h.map;exact ho.lt
 ·exact lQ (h.page p hp)
theorem Spc.frame{w w':World}{sb mb:Nat}{A:List Pg}(h:Spc w sb mb A)(hf:∀k,Spc.foot sb mb A k→w'.heap[k]? =w.heap[k]?):Spc w' sb mb A:=by
 refine⟨(hf sb (.inl rfl)).trans h.head, ?_,fun p hp=>(hf p.blk (.inr (.inr ⟨p,hp,rfl⟩))).trans (h.page p hp),h.ok,h.up,h.blks⟩;obtain⟨D,n,ho,hv,hs⟩:=h.map;exact⟨D,n,own_of_block ho (hf mb (.inr (.inl rfl))),hv,hs⟩
theorem Spc.keep{w w':World}{sb mb:Nat}{A:List Pg}{F:Nat→Prop}(h:Spc w sb mb A)(hm:Mod F w w')(hf:∀k,Spc.foot sb mb A k→¬F k):Spc w' sb mb A:=
 h.frame fun k hk=>hm.block k (h.lt hk) (hf k hk)
theorem Spc.below{w w':World}{sb mb:Nat}{A:List Pg}{B:Nat}(h:Spc w sb mb A)(hm:Below B w w')(hf:∀k,Spc.foot sb mb A k→k<B):Spc w' sb mb A:=
 h.frame fun k hk=>hm.block k (hf k hk)
theorem atAddr_mem{A:List Pg}{x:Int}{p:Pg}(h:atAddr A x=some p):p∈A∧p.addr=x:=
 ⟨List.mem_of_find?_eq_some h,by have:=List.find?_some h;simpa using this⟩
theorem wf_u32{x:Int}(h0:0≤x)(h1:x≤4294967295):(Lit.int .u32 x).wf=true:=by simp[Lit.wf,IntKind.min,IntKind.max,IntKind.signed,IntKind.bits];omega
theorem zeroPage(w:World):(zeroValue 237).run Tryz.prog w=.ok (.pointer none) w:=by kernel_rfl
theorem Spc.look{w:World}{sb mb:Nat}{A:List Pg}(h:Spc w sb mb A)(x:Int)(h0:0≤x)(h1:x≤4294967295):
  (Instr.lookup 272 (.map (some mb)) (.int .u32 x) false).run Tryz.prog w=.ok (pgPtr (atAddr A x)) w:=by
 obtain⟨D,n,ho,hv,_⟩:=h.map;obtain⟨v,ps,hrun,hR⟩:=ho.lookup (Maps.int_keyed Tryz.underlying42) Tryz.underlying272 (zeroPage w) (z:=.pointer none) (zd:=.lit (.int .i64 (-1))) (zp:=[]) rfl (Maps.keyOf_int_mk Tryz.underlying42 (wf_u32 h0 h1));rw[hrun];rw[hv] at hR;cases hp:atAddr A x with
 |none=>
  rw[hp] at hR;rcases ptrElem_inv hR with⟨rfl,_⟩|⟨b,_,hb⟩
  ·rfl
  ·omega
 |some p=>
  rw[hp] at hR;rcases ptrElem_inv hR with⟨_,hb⟩|⟨b,rfl,hb⟩
  ·omega
  ·have:b=p.blk:=by omega
   subst this;rfl
theorem Spc.cellHead{w:World}{sb mb:Nat}{A:List Pg}(h:Spc w sb mb A):w.cell? ⟨sb,0,none⟩=some (.map (some mb)):=by
 unfold World.cell?;rw[h.head];rfl
theorem Spc.cellPerm{w:World}{sb mb:Nat}{A:List Pg}(h:Spc w sb mb A){p:Pg}(hp:p∈A):w.cell? ⟨p.blk,0,none⟩=some (.int .u8 p.perm):=by
 unfold World.cell?;rw[h.page p hp];rfl
theorem Spc.cellByte{w:World}{sb mb:Nat}{A:List Pg}(h:Spc w sb mb A){p:Pg}(hp:p∈A)(j:Nat)(hj:j<256):w.cell? ⟨p.blk,1+j,none⟩=some (.int .u8 (p.bytes.getD j 0)):=by
 rw[Nat.add_comm];unfold World.cell?;rw[h.page p hp];have hl:=(h.ok p hp).len;simp[Pg.cells,List.getElem?_map,Zg (show j<p.bytes.length by omega)]
end Go.Proofs.YtnpicaigdfnmfaaGreat
namespace Go.Proofs.YtnpicaigdfnmfaaGreat.Sp
open Go.RowKit
theorem ret_bool{a b:Bool}(h:a=b):Ending.returned (.bool a)=.returned (.bool b):=by rw[h]
theorem pageAt_far{w:World}{sb mb:Nat}{A:List Pg}(h:Spc w sb mb A)(x:Int)(hx:1048576≤x):pageAt A x=none:=by
 cases hp:pageAt A x with
 |none=>rfl
 |some p=>
  have hm:=atAddr_mem hp;have:=(h.ok p hm.1).a1;omega
theorem at_any{w:World}{sb mb:Nat}{A:List Pg}(h:Spc w sb mb A)(x:Int)(h0:0≤x)(h1:x≤18446744073709551615):
  Calls Tryz.prog 110 #[.pointer (some ⟨sb,0,none⟩),.int .u64 x] w fun e w'=>e=.returned (pgPtr (pageAt A x))∧w=w':=by
 by_cases hx:1048576≤x
 ·have e:=Lh (pageAt_far h x hx);clear h;go_enter func110,ntmps110;go_wp2;go_ret;exact⟨by rw[e.out];rfl,rfl⟩
 ·have hk:x / 256*256=x - x % 256:=by omega
  have hl:=h.look (x / 256*256) (by omega) (by omega);rw[show pgPtr (atAddr A (x / 256*256))=pgPtr (pageAt A x) by rw[hk];rfl] at hl;have hc:=h.cellHead;generalize pgPtr (pageAt A x)=r at*;have hx2:x<1048576:=by omega
  clear h hk hx;go_enter func110,ntmps110;go_wp2;go_ret;exact⟨rfl,rfl⟩
theorem at_none{w:World}{sb mb:Nat}{A:List Pg}(h:Spc w sb mb A)(x:Int)(h0:0≤x)(h1:x≤18446744073709551615)(hp:pageAt A x=none):
  Calls Tryz.prog 110 #[.pointer (some ⟨sb,0,none⟩),.int .u64 x] w fun e w'=>e=.returned (.pointer none)∧w=w':=by
 have:=at_any h x h0 h1;rw[hp] at this;exact this
theorem at_some{w:World}{sb mb:Nat}{A:List Pg}(h:Spc w sb mb A)(x:Int)(h0:0≤x)(h1:x≤18446744073709551615){p:Pg}(hp:pageAt A x=some p):
  Calls Tryz.prog 110 #[.pointer (some ⟨sb,0,none⟩),.int .u64 x] w fun e w'=>e=.returned (.pointer (some ⟨p.blk,0,none⟩))∧w=w':=by
 have:=at_any h x h0 h1;rw[hp] at this;exact this
theorem new(w:World):Calls Tryz.prog 78 #[] w fun e w'=>e=.returned (.pointer (some ⟨w.heap.size+1,0,none⟩))∧Spc w' (w.heap.size+1) w.heap.size []∧Below w.heap.size w w'∧w'.heap.size=w.heap.size+2:=by
 have hmm:= @run_makeMap Tryz.prog;go_enter func78,ntmps78;go_wp2;go_ret;refine⟨rfl,⟨?_, ?_,fun p hp=>by simp at hp,fun p hp=>by simp at hp,.nil,.nil⟩,by repeat (first|exact Below.refl _ _|refine Below.alloc ?_ (by simp) _),by simp⟩
 ·have:=heap_alloc_new (w.alloc (.map #[] 0)) (.cells #[.map (some w.heap.size)] 274)
  simpa using this
 ·exact⟨.map [],0,(World.ownsMap_made w _ _ _).alloc _,fun x zd=>rfl,rfl⟩
def mayB(x:Int):Bool:=(x % 256 == 0)&&decide (x<1048576)
theorem may(x:Int)(h0:0≤x)(h1:x≤4294967295)(w:World):Calls Tryz.prog 126 #[.int .u32 x] w fun e w'=>e=.returned (.bool (mayB x))∧w=w':=by
 by_cases a:x % 256=0
 ·by_cases b:1048576≤x
  ·go_enter func126,ntmps126;go_wp2;go_ret;exact⟨ret_bool (by unfold mayB;rw[decide_eq_false (by omega)];simp),rfl⟩
  ·have hb:decide (x<1048576)=true:=decide_eq_true (by omega);go_enter func126,ntmps126;go_wp2;go_ret;exact⟨ret_bool (by unfold mayB;rw[decide_eq_true (by omega),a];rfl),rfl⟩
 ·go_enter func126,ntmps126;go_wp2;go_ret;exact⟨ret_bool (by unfold mayB;rw[beq_eq_false_iff_ne.2 a];rfl),rfl⟩
def okAt(A:List Pg)(need x:Int):Bool:=match pageAt A x with|some p=>bits .and .u8 p.perm need == need|none=>false
def fitsB(A:List Pg)(addr:Int)(n:Nat)(need:Int):Bool:=(List.range n).all fun k=>okAt A need (addr+k)
def fitsE(A:List Pg)(addr:Int)(n:Nat)(need:Int):Int:=if fitsB A addr n need then 0 else 50
theorem fitsE_yes{A:List Pg}{addr:Int}{n:Nat}{need:Int}(h:fitsB A addr n need=true):fitsE A addr n need=0:=by unfold fitsE;rw[if_pos h]
theorem fitsE_no{A:List Pg}{addr:Int}{n:Nat}{need:Int}(h:fitsB A addr n need=false):fitsE A addr n need=50:=by unfold fitsE;rw[h];rfl
theorem fitsB_succ(A:List Pg)(addr:Int)(k:Nat)(need:Int):fitsB A addr (k+1) need=(fitsB A addr k need&&okAt A need (addr+k)):=by
 unfold fitsB;rw[List.range_succ,List.all_append];simp
theorem fitsB_false{A:List Pg}{addr:Int}{n k:Nat}{need:Int}(hk:k<n)(h:okAt A need (addr+k)=false):fitsB A addr n need=false:=by
 unfold fitsB;rw[Bool.eq_false_iff];intro g;rw[List.all_eq_true] at g;have:=g k (List.mem_range.2 hk);rw[h] at this;cases this
theorem fitsB_at{A:List Pg}{addr:Int}{n k:Nat}{need:Int}(hk:k<n)(h:fitsB A addr n need=true):okAt A need (addr+k)=true:=by
 unfold fitsB at h;rw[List.all_eq_true] at h;exact h k (List.mem_range.2 hk)
def fitsRel(A:List Pg)(addr:Int)(n:Nat)(need:Int)(si:Value):Prop:=∃k:Nat,k≤n∧si=.int .i64 k∧fitsB A addr k need=true
theorem fits{w:World}{sb mb:Nat}{A:List Pg}(h:Spc w sb mb A)(addr:Int)(n:Nat)(need:Int)(h0:0≤addr)(h1:addr≤4294967295)(hn:n≤140737488355328)(n0:0≤need)(n1:need≤255):
  Calls Tryz.prog 109 #[.pointer (some ⟨sb,0,none⟩),.int .u32 addr,.int .i64 n,.int .u8 need] w fun e w'=>e=.returned (.int .i64 (fitsE A addr n need))∧w=w':=by
 have H:=Lh h;clear h;go_enter func109,ntmps109;go_wp2;go_loop [13,9,10,11] (fun si _ _ _=>fitsRel A addr n need si) (fun i _ _ _=>n - (intOf i).toNat)
 case atStart=>exact⟨0,by omega,rfl,rfl⟩
 case round=>
  obtain⟨k,hk,rfl,hfit⟩:=hrel;have Hf:=Lh hfit;clear hfit
  by_cases hk2:k<n
  ·cases hp:pageAt A (addr+k) with
   |none=>
    have Hno:=Lh (fitsB_false (A:=A) (need:=need) hk2 (by unfold okAt;rw[hp]));have Hp:=Lh hp;clear hp;go_wp2_with (go_at_call 110;(with_reducible refine(at_none H.out _ (by omega) (by omega) Hp.out).mono ?_);rintro e w1 ⟨rfl,rfl⟩);go_ret;exact⟨ret_int (fitsE_no Hno.out).symm,rfl⟩
   |some p=>
    have hm:=atAddr_mem hp;have hcp:=H.out.cellPerm hm.1
    by_cases hb:(bits .and .u8 p.perm need == need)=true
    ·have Hs:=Lh (show fitsB A addr (k+1) need=true by rw[fitsB_succ,Hf.out];unfold okAt;rw[hp];simpa using hb);have Hp:=Lh hp;have hb2:(bits .and .u8 p.perm need != need)=false:=by rw[bne,hb];rfl
     clear hp hm hb;go_wp2_with (go_at_call 110;(with_reducible refine(at_some H.out _ (by omega) (by omega) Hp.out).mono ?_);rintro e w1 ⟨rfl,rfl⟩);go_round
     case rel=>exact⟨k+1,by omega,by go_num,Hs.out⟩
     case measure=>simp[intOf]<;>omega
    ·have hb':(bits .and .u8 p.perm need == need)=false:=by simpa using hb
     have Hno:=Lh (fitsB_false (A:=A) (need:=need) hk2 (by unfold okAt;rw[hp];exact hb'));have Hp:=Lh hp;have hb2:(bits .and .u8 p.perm need != need)=true:=by rw[bne,hb'];rfl
     clear hp hm hb hb';go_wp2_with (go_at_call 110;(with_reducible refine(at_some H.out _ (by omega) (by omega) Hp.out).mono ?_);rintro e w1 ⟨rfl,rfl⟩);go_ret;exact⟨ret_int (fitsE_no Hno.out).symm,rfl⟩
  ·obtain rfl:k=n:=by omega
   go_wp2;go_ret;exact⟨ret_int (fitsE_yes Hf.out).symm,rfl⟩
end Go.Proofs.YtnpicaigdfnmfaaGreat.Sp
namespace Go.Proofs.YtnpicaigdfnmfaaGreat.Sp
open Go.RowKit
def byteAt(A:List Pg)(x:Int):Int:=match pageAt A x with|some p=>p.bytes.getD (x % 256).toNat 0|none=>0
def getL(A:List Pg)(addr:Int)(n:Nat):List Int:=(List.range n).map fun(k:Nat)=>byteAt A (addr+(k:Int))
theorem getL_succ(A:List Pg)(addr:Int)(k:Nat):getL A addr (k+1)=getL A addr k++[byteAt A (addr+k)]:=by
 unfold getL;rw[List.range_succ,List.map_append];rfl
theorem getL_length(A:List Pg)(addr:Int)(n:Nat):(getL A addr n).length=n:=by unfold getL;rw[List.length_map,List.length_range]
def fillL(xs:List Int)(n:Nat):List Value:=xs.map (Value.int .u8)++List.replicate (n - xs.length) (.int .u8 0)
theorem fillL_at(xs:List Int)(n:Nat)(h:xs.length<n):(fillL xs n)[xs.length]? =some (.int .u8 0):=by
 unfold fillL;rw[List.getElem?_append_right (by simp),List.length_map,Nat.sub_self,List.getElem?_replicate,if_pos (by omega)]
theorem fillL_set(xs:List Int)(n:Nat)(x:Int)(h:xs.length<n):(fillL xs n).set xs.length (.int .u8 x)=fillL (xs++[x]) n:=by
 unfold fillL;rw[List.set_append_right _ _ (by simp),List.length_map,Nat.sub_self,show n - xs.length=(n - (xs++[x]).length)+1 by simp;omega,List.replicate_succ,List.set_cons_zero,List.map_append,List.append_assoc];rfl
theorem fillL_zero(n:Nat):fillL [] n=List.replicate n (.int .u8 0):=by unfold fillL;simp
theorem fillL_full(xs:List Int):fillL xs xs.length=xs.map (.int .u8):=by unfold fillL;simp
theorem infoU8:(Tryz.prog.info? 5).map (fun i=>(i.zero,i.size,i.bytes))=some (some (.int .u8 0),1,1):=by kernel_rfl
theorem run_made(n:Nat)(hn:n≤140737488355328)(w:World):(Instr.makeSlice 43 (.int .i64 n) (.int .i64 n)).run Tryz.prog w=.ok (.slice (some ⟨w.heap.size,0,none⟩) n n) (w.alloc (.cells (fillL [] n).toArray 5)):=by
 obtain⟨i0,hi,hz0,hz1,hz2⟩:=info_parts infoU8;have h:=run_make (P:=Tryz.prog) w 43 5 i0 (.int .u8 0) Tryz.underlying43 hi hz0 .i64 .i64 n n (by omega) (by omega) (by rw[hz2];omega) (by omega);rw[h,hz1,fillL_zero];have e:madeCells (Value.int .u8 0).cells ((n:Int).toNat*1)=(List.replicate n (Value.int .u8 0)).toArray:=by
  apply Array.toList_inj.1
  rw[show(Value.int .u8 0).cells= #[.int .u8 0] from rfl,toList_madeCells_one]
  simp
 rw[e]
 simp
theorem get_arg{w:World}{sb mb:Nat}{A:List Pg}(h:Spc w sb mb A)(addr n need:Int)(hn:n<0∨1048576<n):
  Calls Tryz.prog 57 #[.pointer (some ⟨sb,0,none⟩),.int .u32 addr,.int .i64 n,.int .u8 need] w fun e w'=>e=.returned (.tuple #[.string ByteArray.empty,.int .i64 2])∧w=w':=by
 clear h;rcases hn with hn|hn
 ·go_enter func57,ntmps57;go_wp2;go_ret2;exact⟨rfl,rfl⟩
 ·have h2:decide (n<0)=false:=decide_eq_false (by omega);go_enter func57,ntmps57;go_wp2;go_ret2;exact⟨rfl,rfl⟩
theorem get_fault{w:World}{sb mb:Nat}{A:List Pg}(h:Spc w sb mb A)(addr need:Int)(n:Nat)(h0:0≤addr)(h1:addr≤4294967295)(hn:n≤1048576)(n0:0≤need)(n1:need≤255)(hf:fitsB A addr n need=false):
  Calls Tryz.prog 57 #[.pointer (some ⟨sb,0,none⟩),.int .u32 addr,.int .i64 n,.int .u8 need] w fun e w'=>e=.returned (.tuple #[.string ByteArray.empty,.int .i64 50])∧w=w':=by
 have hE:=fitsE_no hf;have H:=Lh h;clear h hf;go_enter func57,ntmps57;go_wp2_with (go_at_call 109;(with_reducible refine(fits H.out addr n need h0 h1 (by omega) n0 n1).mono ?_);rintro e w1 ⟨rfl,rfl⟩);go_ret2;exact⟨rfl,rfl⟩
def getRel(A:List Pg)(addr:Int)(n:Nat)(W:World)(si:Value)(wr:World):Prop:=
 ∃k:Nat,k≤n∧si=.int .i64 k∧wr.heap[W.heap.size]? =some (.cells (fillL (getL A addr k) n).toArray 5 (0,0))∧Mod (fun _=>False) W wr
theorem get_ok{w:World}{sb mb:Nat}{A:List Pg}(h:Spc w sb mb A)(addr need:Int)(n:Nat)(h0:0≤addr)(h1:addr≤4294967295)(hn:n≤1048576)(n0:0≤need)(n1:need≤255)(hf:fitsB A addr n need=true):
  Calls Tryz.prog 57 #[.pointer (some ⟨sb,0,none⟩),.int .u32 addr,.int .i64 n,.int .u8 need] w fun e w'=>e=.returned (.tuple #[.string (strOfNums (getL A addr n)),.int .i64 0])∧Below w.heap.size w w':=by
 have hE:=fitsE_yes hf;have hmk:=fun W=>run_made n (by omega) W
 have H:=Lh h;have Hf:=Lh hf;clear h hf;go_enter func57,ntmps57;go_wp2_with (go_at_call 109;(with_reducible refine(fits H.out addr n need h0 h1 (by omega) n0 n1).mono ?_);rintro e w1 ⟨rfl,rfl⟩);clear hmk;go_loopw [39,13,14] (fun si _ _ wr=>getRel A addr n w si wr) (fun i _ _ _=>n - (intOf i).toNat)
 case atStart=>exact⟨0,by omega,rfl,heap_alloc_new _ _,(Mod.refl _ _).alloc _⟩
 case round=>
  obtain⟨k,hk,rfl,hg,hm⟩:=hrel;have Hg:=Lh hg;have Hm:=Lh hm;have hgl:=lQ hg;have Hs:Hid (Spc wr sb mb A):=H.out.keep hm fun _ _ g=>g
  clear hg hm
  by_cases hk2:k<n
  ·have hokk:=fitsB_at hk2 Hf.out;cases hp:pageAt A (addr+k) with
   |none=>unfold okAt at hokk;rw[hp] at hokk;cases hokk
   |some p=>
    have hpm:=atAddr_mem hp;have hpo:=Hs.out.ok p hpm.1;have ha2:addr+(k:Int)<1048576:=by have:=hpo.a1;have:=hpo.a2;omega
    obtain⟨j,hj⟩:∃j:Nat,(addr+(k:Int)) % 256=j:=⟨((addr+(k:Int)) % 256).toNat,by omega⟩;have hcb:=Hs.out.cellByte hpm.1 j (by omega);have hby:byteAt A (addr+k)=p.bytes.getD j 0:=by unfold byteAt;rw[hp,hj];rfl
    have hck:wr.cell? ⟨w.heap.size,k,none⟩=some (.int .u8 0):=by
     unfold World.cell?;rw[Hg.out];have:=fillL_at (getL A addr k) n (by rw[getL_length];omega);rw[getL_length] at this
     simpa using this
    have hfr:wr.frozen? ⟨w.heap.size,k,none⟩=false:=by unfold World.frozen?;rw[Hg.out];simp
    have Hp:=Lh hp;have Hby:=Lh hby;clear hp hby hpm hpo hokk;generalize p.bytes.getD j 0=x at*;go_wp2_with (go_at_call 110;(with_reducible refine(at_some Hs.out _ (by omega) (by omega) Hp.out).mono ?_);rintro e w1 ⟨rfl,rfl⟩);refine⟨⟨k+1,by omega,by go_num, ?_,Hm.out.setCell _ (.inr (Nat.le_refl _)) _⟩,by simp[intOf];omega⟩;have hl:=getL_length A addr k;rw[heap_setCell_same wr w.heap.size k _ _ _ Hg.out,List.setIfInBounds_toArray,getL_succ,Hby.out];have:=fillL_set (getL A addr k) n x (by rw[hl];exact hk2);rw[hl] at this;rw[this]
  ·obtain rfl:k=n:=by omega
   have hcv:=run_convert_bytes_arg (P:=Tryz.prog) wr 43 5 Tryz.underlying43 Tryz.underlying5 w.heap.size 0 k k (getL A addr k) (getL_length A addr k) (fun i hi=>by
    unfold World.cell?;rw[Hg.out];have hl:=getL_length A addr k;have hff:=fillL_full (getL A addr k);rw[hl] at hff;rw[hff];simp[List.getElem?_map,List.getD,Zg (show i<(getL A addr k).length by omega)]) 9 Tryz.underlying9
   go_wp2;go_ret2;exact⟨rfl,Hm.out.toBelow⟩
end Go.Proofs.YtnpicaigdfnmfaaGreat.Sp
namespace Go.Proofs.YtnpicaigdfnmfaaGreat
open Go.RowKit
def setPg(x v:Int)(p:Pg):Pg:=if p.addr == x - x % 256 then { p with bytes:=p.bytes.set (x % 256).toNat v } else p
def setByte(A:List Pg)(x v:Int):List Pg:=A.map (setPg x v)
theorem setPg_addr(x v:Int)(p:Pg):(setPg x v p).addr=p.addr:=by unfold setPg;split<;>rfl
theorem setPg_blk(x v:Int)(p:Pg):(setPg x v p).blk=p.blk:=by unfold setPg;split<;>rfl
theorem setPg_perm(x v:Int)(p:Pg):(setPg x v p).perm=p.perm:=by unfold setPg;split<;>rfl
theorem setPg_ok(x v:Int)(p:Pg)(h:p.ok)(v0:0≤v)(v1:v<256):(setPg x v p).ok:=by
 unfold setPg
 split
 ·refine⟨h.a0,h.a1,h.a2,h.p0,h.p1, ?_,fun y hy=> ?_⟩
  ·rw[List.length_set];exact h.len
  ·rcases List.mem_or_eq_of_mem_set hy with g|rfl
   ·exact h.bd y g
   ·exact⟨v0,v1⟩
 ·exact h
theorem atAddr_set(A:List Pg)(x v y:Int):atAddr (setByte A x v) y=(atAddr A y).map (setPg x v):=by
 unfold atAddr setByte;rw[List.find?_map]
 congr 2
 funext p
 simp[Function.comp,setPg_addr]
theorem pageAt_set(A:List Pg)(x v y:Int):pageAt (setByte A x v) y=(pageAt A y).map (setPg x v):=atAddr_set A x v _
theorem addr_eq_of_up{A:List Pg}(h:A.Pairwise fun p q=>p.addr<q.addr):∀ {p q:Pg},p∈A→q∈A→p.addr=q.addr→p=q:=by
 induction A with
 |nil=>intro p q hp;simp at hp
 |cons a r ih=>
  intro p q hp hq he;rw[List.pairwise_cons] at h;rcases List.mem_cons.1 hp with rfl|hp'
  ·rcases List.mem_cons.1 hq with rfl|hq'
   ·rfl
   ·have:=h.1 q hq';omega
  ·rcases List.mem_cons.1 hq with rfl|hq'
   ·have:=h.1 p hp';omega
   ·exact ih h.2 hp' hq' he
theorem blk_ne_of{A:List Pg}(h:A.Pairwise fun p q=>p.blk≠q.blk):∀ {p q:Pg},p∈A→q∈A→p≠q→p.blk≠q.blk:=by
 induction A with
 |nil=>intro p q hp;simp at hp
 |cons a r ih=>
  intro p q hp hq he;rw[List.pairwise_cons] at h;rcases List.mem_cons.1 hp with rfl|hp'
  ·rcases List.mem_cons.1 hq with rfl|hq'
   ·exact absurd rfl he
   ·exact h.1 q hq'
  ·rcases List.mem_cons.1 hq with rfl|hq'
   ·exact fun e=>h.1 p hp' e.symm
   ·exact ih h.2 hp' hq' he
theorem Spc.ne_head{w:World}{sb mb:Nat}{A:List Pg}(h:Spc w sb mb A){p:Pg}(hp:p∈A):sb≠p.blk:=by
 intro e;have h1:=h.head;have h2:=h.page p hp;rw[←e,h1] at h2;simp at h2
theorem Spc.ne_map{w:World}{sb mb:Nat}{A:List Pg}(h:Spc w sb mb A){p:Pg}(hp:p∈A):mb≠p.blk:=by
 intro e;obtain⟨D,n,⟨es,clock,hb,_⟩,_⟩:=h.map;have h2:=h.page p hp;rw[←e,hb] at h2;cases h2
theorem Spc.ne_hm{w:World}{sb mb:Nat}{A:List Pg}(h:Spc w sb mb A):sb≠mb:=by
 intro e;obtain⟨D,n,⟨es,clock,hb,_⟩,_⟩:=h.map;have h2:=h.head;rw[e,hb] at h2;cases h2
theorem Spc.setByte{w:World}{sb mb:Nat}{A:List Pg}(h:Spc w sb mb A){x v:Int}{p:Pg}(hp:pageAt A x=some p){j:Nat}(hj:x % 256=j)(v0:0≤v)(v1:v<256):
  Spc (w.setCell ⟨p.blk,1+j,none⟩ (.int .u8 v)) sb mb (setByte A x v):=by
 have hm:=atAddr_mem hp;have hpl:=(h.ok p hm.1).len;refine⟨?_, ?_, ?_, ?_, ?_, ?_⟩
 ·rw[heap_setCell_other _ _ _ _ (h.ne_head hm.1)];exact h.head
 ·obtain⟨D,n,ho,hv,hs⟩:=h.map;refine⟨D,n,own_of_block ho (heap_setCell_other _ _ _ _ (h.ne_map hm.1)),fun y zd=> ?_, ?_⟩
  ·rw[hv,atAddr_set];cases atAddr A y with
   |none=>rfl
   |some q=>simp only[Option.map_some,setPg_blk]
  ·unfold Proofs.YtnpicaigdfnmfaaGreat.setByte;rw[List.length_map];exact hs
 ·intro q' hq';obtain⟨q,hq,rfl⟩:=List.mem_map.1 hq';rw[setPg_blk]
  by_cases e:q.addr=x - x % 256
  ·have:q=p:=addr_eq_of_up h.up hq hm.1 (by rw[e,hm.2]);subst this;rw[heap_setCell_same w q.blk (1+j) _ _ _ (h.page q hq)]
   congr 2
   unfold setPg Pg.cells;rw[if_pos (by simpa using e),List.setIfInBounds_toArray,Nat.add_comm,List.set_cons_succ,hj];simp[List.map_set]
  ·have hne:q≠p:=fun g=>e (by rw[g,hm.2])
   rw[heap_setCell_other _ _ _ _ (blk_ne_of h.blks hq hm.1 hne),h.page q hq];unfold setPg;rw[if_neg (by simpa using e)]
 ·intro q' hq';obtain⟨q,hq,rfl⟩:=List.mem_map.1 hq';exact setPg_ok x v q (h.ok q hq) v0 v1
 ·unfold Proofs.YtnpicaigdfnmfaaGreat.setByte;rw[List.pairwise_map]
  simpa only[setPg_addr] using h.up
 ·unfold Proofs.YtnpicaigdfnmfaaGreat.setByte;rw[List.pairwise_map]
  simpa only[setPg_blk] using h.blks
def putN(A:List Pg)(addr:Int)(xs:List Int):Nat→List Pg
 |0=>A
 |k+1=>setByte (putN A addr xs k) (addr+k) (xs.getD k 0)
theorem pageAt_putN_some{A:List Pg}{y:Int}{p:Pg}(h:pageAt A y=some p)(addr:Int)(xs:List Int)(k:Nat):∃q,pageAt (putN A addr xs k) y=some q∧q.blk=p.blk∧q.perm=p.perm∧q.addr=p.addr:=by
 induction k with
 |zero=>exact⟨p,h,rfl,rfl,rfl⟩
 |succ k ih=>
  obtain⟨q,hq,h1,h2,h3⟩:=ih;refine⟨setPg (addr+k) (xs.getD k 0) q, ?_, ?_, ?_, ?_⟩
  ·show pageAt (setByte _ _ _) y=_
   rw[pageAt_set,hq];rfl
  ·rw[setPg_blk,h1]
  ·rw[setPg_perm,h2]
  ·rw[setPg_addr,h3]
theorem foot_setByte{sb mb:Nat}{A:List Pg}{x v:Int}{k:Nat}:Spc.foot sb mb (setByte A x v) k↔Spc.foot sb mb A k:=by
 unfold Spc.foot Proofs.YtnpicaigdfnmfaaGreat.setByte
 constructor
 ·rintro(h|h|⟨p,hp,rfl⟩)
  ·exact .inl h
  ·exact .inr (.inl h)
  ·obtain⟨q,hq,rfl⟩:=List.mem_map.1 hp;exact .inr (.inr ⟨q,hq,setPg_blk x v q⟩)
 ·rintro(h|h|⟨p,hp,rfl⟩)
  ·exact .inl h
  ·exact .inr (.inl h)
  ·exact .inr (.inr ⟨setPg x v p,List.mem_map.2 ⟨p,hp,rfl⟩,(setPg_blk x v p).symm⟩)
theorem foot_putN{sb mb:Nat}{A:List Pg}{addr:Int}{xs:List Int}{n k:Nat}:Spc.foot sb mb (putN A addr xs n) k↔Spc.foot sb mb A k:=by
 induction n with
 |zero=>exact Iff.rfl
 |succ n ih=>exact foot_setByte.trans ih
end Go.Proofs.YtnpicaigdfnmfaaGreat
namespace Go.Proofs.YtnpicaigdfnmfaaGreat.Sp
open Go.RowKit
theorem put_fault{w:World}{sb mb:Nat}{A:List Pg}(h:Spc w sb mb A)(addr need:Int)(s:ByteArray)(h0:0≤addr)(h1:addr≤4294967295)(hn:s.size≤140737488355328)(n0:0≤need)(n1:need≤255)(hf:fitsB A addr s.size need=false):
  Calls Tryz.prog 130 #[.pointer (some ⟨sb,0,none⟩),.int .u32 addr,.string s,.int .u8 need] w fun e w'=>e=.returned (.int .i64 50)∧w=w':=by
 have hE:=fitsE_no hf;have H:=Lh h;clear h hf;go_enter func130,ntmps130;go_wp2_with (go_at_call 109;(with_reducible refine(fits H.out addr s.size need h0 h1 (by omega) n0 n1).mono ?_);rintro e w1 ⟨rfl,rfl⟩);go_ret;exact⟨rfl,rfl⟩
def pgBlk(A:List Pg)(k:Nat):Prop:=∃p,p∈A∧k=p.blk
def putRel(sb mb:Nat)(A:List Pg)(addr:Int)(s:ByteArray)(W:World)(si:Value)(wr:World):Prop:=
 ∃k:Nat,k≤s.size∧si=.int .i64 k∧Spc wr sb mb (putN A addr (nums s) k)∧Mod (pgBlk A) W wr
theorem put_ok{w:World}{sb mb:Nat}{A:List Pg}(h:Spc w sb mb A)(addr need:Int)(s:ByteArray)(h0:0≤addr)(h1:addr≤4294967295)(hn:s.size≤140737488355328)(n0:0≤need)(n1:need≤255)(hf:fitsB A addr s.size need=true):
  Calls Tryz.prog 130 #[.pointer (some ⟨sb,0,none⟩),.int .u32 addr,.string s,.int .u8 need] w fun e w'=>e=.returned (.int .i64 0)∧Spc w' sb mb (putN A addr (nums s) s.size)∧Mod (pgBlk A) w w':=by
 have hE:=fitsE_yes hf;have hcv:=fun(w:World)=>run_bytes_of_string (P:=Tryz.prog) w 9 43 5 s Tryz.underlying9 Tryz.underlying43 Tryz.underlying5
 have H:=Lh h;have Hf:=Lh hf;clear h hf;go_enter func130,ntmps130;go_wp2_with (go_at_call 109;(with_reducible refine(fits H.out addr s.size need h0 h1 (by omega) n0 n1).mono ?_);rintro e w1 ⟨rfl,rfl⟩);generalize hW:(w.alloc (.cells (bytesRow s (grownCap w s.size 0 5)) 5 ((bytesRow s (grownCap w s.size 0 5)).size,(bytesRow s (grownCap w s.size 0 5)).size+1))).drew=W;generalize grownCap w s.size 0 5=cap at*;have HW:=Lh hW;have Hm0:Hid (Mod (pgBlk A) w W):=by rw[←hW];exact((Mod.refl _ _).alloc _).drew
 have Hs0:Hid (Spc W sb mb A):=H.out.keep (F:=fun _=>False) (by rw[←hW];exact((Mod.refl _ _).alloc _).drew) fun _ _ g=>g
 clear hW hcv;go_loopw [26,10,11,12,13] (fun si _ _ _ _ wr=>putRel sb mb A addr s W si wr) (fun i _ _ _ _ _=>s.size - (intOf i).toNat)
 case atStart=>exact⟨0,by omega,rfl,Hs0.out,Mod.refl _ _⟩
 case round=>
  obtain⟨k,hk,rfl,hsp,hm⟩:=hrel;have Hm:=Lh hm;have Hs:=Lh hsp
  by_cases hk2:k<s.size
  ·have hokk:=fitsB_at hk2 Hf.out;cases hp0:pageAt A (addr+k) with
   |none=>unfold okAt at hokk;rw[hp0] at hokk;cases hokk
   |some p0=>
    obtain⟨p,hp,hpb,_,_⟩:=pageAt_putN_some hp0 addr (nums s) k;have hpm:=atAddr_mem hp;have hpo:=hsp.ok p hpm.1;have ha2:addr+(k:Int)<1048576:=by have:=hpo.a1;have:=hpo.a2;omega
    obtain⟨j,hj⟩:∃j:Nat,(addr+(k:Int)) % 256=j:=⟨((addr+(k:Int)) % 256).toNat,by omega⟩;have hcb:=hsp.cellByte hpm.1 j (by omega);have hpf:pgBlk A p.blk:=⟨p0,(atAddr_mem hp0).1,hpb⟩;have hrow:wr.cell? ⟨w.heap.size,k,none⟩=some (.int .u8 ((nums s).getD k 0)):=by
     have hb:wr.heap[w.heap.size]? =W.heap[w.heap.size]? :=hm.block _ (by rw[←HW.out];simp) (by
      rintro⟨q,hq,e⟩;have:=H.out.lt (.inr (.inr ⟨q,hq,rfl⟩));omega)
     rw[World.cell?_of_block (w:=W) hb,←HW.out];exact fresh_bytes _ _ _ _ _ _ hk2
    have hfr:wr.frozen? ⟨p.blk,1+j,none⟩=false:=by unfold World.frozen?;rw[hsp.page p hpm.1];simp
    have hxb:=byte_bd (s[k]'hk2);rw[nums_get s k hk2] at hxb;have hstep:=hsp.setByte hp hj hxb.1 hxb.2;have Hst:Hid (Spc (wr.setCell ⟨p.blk,1+j,none⟩ (.int .u8 ((nums s).getD k 0))) sb mb (putN A addr (nums s) (k+1))):=hstep;have Hp:=Lh hp;have Hpf:=Lh hpf;clear hp hpm hpo hokk hsp hm hp0 hpb hpf hstep;generalize (nums s).getD k 0=x at*;go_wp2_with (go_at_call 110;(with_reducible refine(at_some Hs.out _ (by omega) (by omega) Hp.out).mono ?_);rintro e w1 ⟨rfl,rfl⟩);exact⟨⟨k+1,by omega,by go_num,Hst.out,Hm.out.setCell _ (.inl Hpf.out) _⟩,by simp[intOf];omega⟩
  ·obtain rfl:k=s.size:=by omega
   clear hsp hm;go_wp2;go_ret;exact⟨rfl,Hs.out,Hm0.out.same Hm.out⟩
def putA(A:List Pg)(addr need:Int)(s:ByteArray):List Pg:=if fitsB A addr s.size need then putN A addr (nums s) s.size else A
theorem put_any{w:World}{sb mb:Nat}{A:List Pg}(h:Spc w sb mb A)(addr need:Int)(s:ByteArray)(h0:0≤addr)(h1:addr≤4294967295)(hn:s.size≤140737488355328)(n0:0≤need)(n1:need≤255):
  Calls Tryz.prog 130 #[.pointer (some ⟨sb,0,none⟩),.int .u32 addr,.string s,.int .u8 need] w fun e w'=>e=.returned (.int .i64 (fitsE A addr s.size need))∧Spc w' sb mb (putA A addr need s)∧Mod (pgBlk A) w w':=by
 cases hf:fitsB A addr s.size need with
 |true=>exact(put_ok h addr need s h0 h1 hn n0 n1 hf).mono fun e w' ⟨g1,g2,g3⟩=>⟨by rw[g1,fitsE_yes hf],by unfold putA;rw[if_pos hf];exact g2,g3⟩
 |false=>exact(put_fault h addr need s h0 h1 hn n0 n1 hf).mono fun e w' ⟨g1,g2⟩=>⟨by rw[g1,fitsE_no hf],by unfold putA;rw[hf];exact g2▸h,g2▸Mod.refl _ _⟩
def getE(A:List Pg)(addr n need:Int):Int:=if n<0∨1048576<n then 2 else fitsE A addr n.toNat need
def getS(A:List Pg)(addr n need:Int):ByteArray:=if n<0∨1048576<n then ByteArray.empty else if fitsB A addr n.toNat need then strOfNums (getL A addr n.toNat) else ByteArray.empty
theorem get_any{w:World}{sb mb:Nat}{A:List Pg}(h:Spc w sb mb A)(addr n need:Int)(h0:0≤addr)(h1:addr≤4294967295)(n0:0≤need)(n1:need≤255):
  Calls Tryz.prog 57 #[.pointer (some ⟨sb,0,none⟩),.int .u32 addr,.int .i64 n,.int .u8 need] w fun e w'=>e=.returned (.tuple #[.string (getS A addr n need),.int .i64 (getE A addr n need)])∧Below w.heap.size w w':=by
 by_cases hn:n<0∨1048576<n
 ·exact(get_arg h addr n need hn).mono fun e w' ⟨g1,g2⟩=>⟨by rw[g1];unfold getS getE;rw[if_pos hn,if_pos hn],g2▸Below.refl _ _⟩
 ·obtain⟨m,rfl⟩:=Int.eq_ofNat_of_zero_le (show 0≤n by omega);cases hf:fitsB A addr m need with
  |true=>exact(get_ok h addr need m h0 h1 (by omega) n0 n1 hf).mono fun e w' ⟨g1,g2⟩=>⟨by rw[g1];unfold getS getE;rw[if_neg hn,if_neg hn,Int.toNat_natCast,if_pos hf,fitsE_yes hf],g2⟩
  |false=>exact(get_fault h addr need m h0 h1 (by omega) n0 n1 hf).mono fun e w' ⟨g1,g2⟩=>⟨by rw[g1];unfold getS getE;rw[if_neg hn,if_neg hn,Int.toNat_natCast,hf,fitsE_no hf];rfl,g2▸Below.refl _ _⟩
theorem look{w:World}{sb mb:Nat}{A:List Pg}(h:Spc w sb mb A)(addr n:Int)(h0:0≤addr)(h1:addr≤4294967295):
  Calls Tryz.prog 26 #[.pointer (some ⟨sb,0,none⟩),.int .u32 addr,.int .i64 n] w fun e w'=>e=.returned (.tuple #[.string (getS A addr n 0),.int .i64 (getE A addr n 0)])∧Below w.heap.size w w':=by
 have H:=Lh h;clear h;go_enter func26,ntmps26;go_wp2_with (go_at_call 57;(with_reducible refine(get_any H.out addr n 0 h0 h1 (by omega) (by omega)).mono ?_);rintro e w1 ⟨rfl,hb⟩);go_ret2;exact⟨rfl,by assumption⟩
theorem read{w:World}{sb mb:Nat}{A:List Pg}(h:Spc w sb mb A)(addr n:Int)(h0:0≤addr)(h1:addr≤4294967295):
  Calls Tryz.prog 303 #[.pointer (some ⟨sb,0,none⟩),.int .u32 addr,.int .i64 n] w fun e w'=>e=.returned (.tuple #[.string (getS A addr n 1),.int .i64 (getE A addr n 1)])∧Below w.heap.size w w':=by
 have H:=Lh h;clear h;go_enter func303,ntmps303;go_wp2_with (go_at_call 57;(with_reducible refine(get_any H.out addr n 1 h0 h1 (by omega) (by omega)).mono ?_);rintro e w1 ⟨rfl,hb⟩);go_ret2;exact⟨rfl,by assumption⟩
theorem fetch{w:World}{sb mb:Nat}{A:List Pg}(h:Spc w sb mb A)(addr:Int)(h0:0≤addr)(h1:addr≤4294967295):
  Calls Tryz.prog 161 #[.pointer (some ⟨sb,0,none⟩),.int .u32 addr] w fun e w'=>e=.returned (.tuple #[.string (getS A addr 8 4),.int .i64 (getE A addr 8 4)])∧Below w.heap.size w w':=by
 have H:=Lh h;clear h;go_enter func161,ntmps161;go_wp2_with (go_at_call 57;(with_reducible refine(get_any H.out addr 8 4 h0 h1 (by omega) (by omega)).mono ?_);rintro e w1 ⟨rfl,hb⟩);go_ret2;exact⟨rfl,by assumption⟩
theorem write{w:World}{sb mb:Nat}{A:List Pg}(h:Spc w sb mb A)(addr:Int)(s:ByteArray)(h0:0≤addr)(h1:addr≤4294967295)(hn:s.size≤140737488355328):
  Calls Tryz.prog 235 #[.pointer (some ⟨sb,0,none⟩),.int .u32 addr,.string s] w fun e w'=>e=.returned (.int .i64 (fitsE A addr s.size 2))∧Spc w' sb mb (putA A addr 2 s)∧Mod (pgBlk A) w w':=by
 have H:=Lh h;clear h;go_enter func235,ntmps235;go_wp2_with (go_at_call 130;(with_reducible refine(put_any H.out addr 2 s h0 h1 hn (by omega) (by omega)).mono ?_);rintro e w1 ⟨rfl,hb⟩);go_ret;exact⟨rfl,by assumption⟩
end Go.Proofs.YtnpicaigdfnmfaaGreat.Sp
namespace Go.Proofs.YtnpicaigdfnmfaaGreat
open Go.RowKit
def insPg(p:Pg):List Pg→List Pg
 | []=>[p]
 |q::r=>if p.addr<q.addr then p::q::r else q::insPg p r
theorem mem_insPg{p q:Pg}{A:List Pg}:q∈insPg p A↔q=p∨q∈A:=by
 induction A with
 |nil=>simp[insPg]
 |cons a r ih=>
  unfold insPg
  split
  ·simp
  ·rw[List.mem_cons,ih,List.mem_cons]
   constructor
   ·rintro(h|h|h)<;>simp[h]
   ·rintro(h|h|h)<;>simp[h]
theorem length_insPg(p:Pg)(A:List Pg):(insPg p A).length=A.length+1:=by
 induction A with
 |nil=>rfl
 |cons a r ih=>unfold insPg;split<;>simp[ih]
theorem up_insPg{p:Pg}{A:List Pg}(h:A.Pairwise fun p q=>p.addr<q.addr)(hn:∀q,q∈A→q.addr≠p.addr):(insPg p A).Pairwise fun p q=>p.addr<q.addr:=by
 induction A with
 |nil=>simp[insPg]
 |cons a r ih=>
  rw[List.pairwise_cons] at h;have ha:=hn a (by simp);unfold insPg
  split
  ·rename_i hlt
   rw[List.pairwise_cons,List.pairwise_cons];refine⟨fun q hq=> ?_,h.1,h.2⟩;rcases List.mem_cons.1 hq with rfl|hq'
   ·exact hlt
   ·have:=h.1 q hq';omega
  ·rw[List.pairwise_cons];refine⟨fun q hq=> ?_,ih h.2 fun q hq=>hn q (by simp[hq])⟩;rcases mem_insPg.1 hq with rfl|hq'
   ·omega
   ·exact h.1 q hq'
theorem pw_insPg{p:Pg}{A:List Pg}(h:A.Pairwise fun p q=>p.blk≠q.blk)(hn:∀q,q∈A→q.blk≠p.blk):(insPg p A).Pairwise fun p q=>p.blk≠q.blk:=by
 induction A with
 |nil=>simp[insPg]
 |cons a r ih=>
  rw[List.pairwise_cons] at h;unfold insPg
  split
  ·rw[List.pairwise_cons,List.pairwise_cons];exact⟨fun q hq=>(hn q hq).symm,h.1,h.2⟩
  ·rw[List.pairwise_cons];refine⟨fun q hq=> ?_,ih h.2 fun q hq=>hn q (by simp[hq])⟩;rcases mem_insPg.1 hq with rfl|hq'
   ·exact hn a (by simp)
   ·exact h.1 q hq'
theorem atAddr_none{A:List Pg}{x:Int}(h:atAddr A x=none):∀q,q∈A→q.addr≠x:=by
 intro q hq e;have:=List.find?_eq_none.1 h q hq;simp at this;exact this e
theorem atAddr_eq_none{A:List Pg}{x:Int}(h:∀q,q∈A→q.addr≠x):atAddr A x=none:=List.find?_eq_none.2 fun q hq=>by simpa using h q hq
theorem atAddr_eq_some{A:List Pg}{p:Pg}(h:A.Pairwise fun p q=>p.addr<q.addr)(hp:p∈A):atAddr A p.addr=some p:=by
 cases hq:atAddr A p.addr with
 |none=>exact absurd rfl (atAddr_none hq p hp)
 |some q=>have:=atAddr_mem hq;rw[addr_eq_of_up h this.1 hp this.2]
theorem atAddr_ins{p:Pg}{A:List Pg}(h:A.Pairwise fun p q=>p.addr<q.addr)(hn:atAddr A p.addr=none)(x:Int):atAddr (insPg p A) x=if x=p.addr then some p else atAddr A x:=by
 have hu:=up_insPg (p:=p) h (atAddr_none hn)
 by_cases e:x=p.addr
 ·rw[if_pos e,e,atAddr_eq_some hu (mem_insPg.2 (.inl rfl))]
 ·rw[if_neg e];cases hq:atAddr A x with
  |none=>
   refine atAddr_eq_none fun q hq'=> ?_
   rcases mem_insPg.1 hq' with rfl|hq''
   ·exact fun g=>e g.symm
   ·exact atAddr_none hq q hq''
  |some q=>
   have hm:=atAddr_mem hq;rw[←hm.2,atAddr_eq_some hu (mem_insPg.2 (.inr hm.1))]
theorem len_up{A:List Pg}(h:A.Pairwise fun p q=>p.addr<q.addr)(ok:∀p,p∈A→p.ok)(lo:Int)(hlo:∀p,p∈A→lo≤p.addr)(h0:lo≤1048576):lo+256*A.length≤1048576:=by
 induction A generalizing lo with
 |nil=>simpa using h0
 |cons a r ih=>
  rw[List.pairwise_cons] at h;have ha:=ok a (by simp);have:=ha.a1;have:=ha.a2;have hl:=hlo a (by simp);have:=ih h.2 (fun p hp=>ok p (by simp[hp])) (a.addr+256) (fun p hp=>by
   have h1:=h.1 p hp;have h2:=(ok p (by simp[hp])).a2;omega) (by omega)
  simp only[List.length_cons];omega
theorem Spc.len{w:World}{sb mb:Nat}{A:List Pg}(h:Spc w sb mb A):A.length≤4096:=by
 have:=len_up h.up h.ok 0 (fun p hp=>(h.ok p hp).a0) (by omega);omega
theorem own_tight{w:World}{P:Program}{k:TypeId}{R:Value→Option (DataW Unit×List MemPlace)}{b n:Nat}{D:DataW Unit}(h:w.ownsMap P k R b n D):w.ownsMap P k R b (Maps.size D) D:=by
 obtain⟨es,clock,hb,F,hs,rfl⟩:=h;exact⟨es,clock,hb,F,by simp[Maps.size,length_sorted],rfl⟩
def pgNew(addr:Int)(blk:Nat)(perm:Int):Pg:=⟨addr,blk,perm,List.replicate 256 0⟩
theorem Spc.insert{w:World}{sb mb:Nat}{A:List Pg}(h:Spc w sb mb A)(addr perm:Int)(h0:0≤addr)(h1:addr<1048576)(h2:addr % 256=0)(p0:0≤perm)(p1:perm≤7)(hn:atAddr A addr=none)(blk:Nat)(hblk:w.heap[blk]? =some (.cells (pgNew addr blk perm).cells 236 (0,0)))
  (hfresh:¬Spc.foot sb mb A blk):
  ∃w',(Instr.mapUpdate 272 (.map (some mb)) (.int .u32 addr) (.pointer (some ⟨blk,0,none⟩))).run Tryz.prog w=.ok () w'∧Spc w' sb mb (insPg (pgNew addr blk perm) A)∧Mod (fun k=>k=mb) w w':=by
 obtain⟨D,n,ho,hv,hs⟩:=h.map;have ht:=own_tight ho;have hl:=h.len;have K:=Maps.int_keyed (P:=Tryz.prog) Tryz.underlying42;have hk:=Maps.keyOf_int_mk (P:=Tryz.prog) Tryz.underlying42 (wf_u32 h0 (by omega:addr≤4294967295));obtain⟨w',hrun,how,htu⟩:=ht.store K Tryz.underlying272 (by rw[hs];unfold maxLen;omega) (val:=.pointer (some ⟨blk,0,none⟩)) (d:=.lit (.int .i64 blk)) (ps:=[]) hk rfl;have hg:=htu.grown;have hne:∀k,k<w.heap.size→k≠mb→w'.heap[k]? =w.heap[k]? :=fun k hk hkm=>hg.block k hk (by simpa using hkm)
 refine⟨w',hrun,⟨?_, ?_, ?_, ?_, ?_, ?_⟩,⟨hg.os,hg.tape,hg.output,hg.size,fun k hk hkm=>hne k hk hkm⟩⟩
 ·exact(hne sb (h.lt (.inl rfl)) h.ne_hm).trans h.head
 ·refine⟨_,_,how,fun x zd=> ?_, ?_⟩
  ·rw[atAddr_ins h.up hn]
   by_cases e:x=addr
   ·subst e;rw[if_pos (show x=(pgNew x blk perm).addr from rfl),Maps.atKey_put_same ht.isMap (K.key hk)];rfl
   ·rw[if_neg (show¬x=(pgNew addr blk perm).addr from e),Maps.atKey_put_other (by intro g;simp at g;exact e g),hv]
  ·rw[Maps.size_put (ht.tidy K),length_insPg,hs];have:Maps.has D (.int .u32 addr)=false:=Maps.has_false_of_atKey fun z=>by rw[hv,hn]
   rw[this];rfl
 ·intro p hp;rcases mem_insPg.1 hp with rfl|hp'
  ·exact(hne _ (lQ hblk) (fun e=>hfresh (.inr (.inl e)))).trans hblk
  ·exact(hne p.blk (lQ (h.page p hp')) (h.ne_map hp').symm).trans (h.page p hp')
 ·intro p hp;rcases mem_insPg.1 hp with rfl|hp'
  ·exact⟨h0,h1,h2,p0,p1,List.length_replicate,fun x hx=>by have:=List.eq_of_mem_replicate hx;omega⟩
  ·exact h.ok p hp'
 ·exact up_insPg h.up (atAddr_none hn)
 ·exact pw_insPg h.blks fun q hq e=>hfresh (.inr (.inr ⟨q,hq,e.symm⟩))
end Go.Proofs.YtnpicaigdfnmfaaGreat
namespace Go.Proofs.YtnpicaigdfnmfaaGreat.Sp
open Go.RowKit
def pgZero(perm:Int):Array Value:=(Value.int .u8 perm::List.replicate 256 (Value.int .u8 0)).toArray
theorem pgZero_eq(addr:Int)(blk:Nat)(perm:Int):pgZero perm=(pgNew addr blk perm).cells:=by
 unfold pgZero Pg.cells pgNew;rw[List.map_replicate]
theorem zero_set(perm:Int):Tryz.zeroCells236.setIfInBounds 0 (.int .u8 perm)=pgZero perm:=by kernel_rfl
def mapE(A:List Pg)(addr perm:Int):Int:=if mayB addr=false∨7<perm then 2 else if(pageAt A addr).isSome then 9 else 0
theorem map_arg{w:World}{sb mb:Nat}{A:List Pg}(h:Spc w sb mb A)(addr perm:Int)(h0:0≤addr)(h1:addr≤4294967295)(p0:0≤perm)(p1:perm≤255)(hb:mayB addr=false∨7<perm):
  Calls Tryz.prog 80 #[.pointer (some ⟨sb,0,none⟩),.int .u32 addr,.int .u8 perm] w fun e w'=>e=.returned (.int .i64 2)∧w=w':=by
 clear h;cases hm:mayB addr with
 |false=>
  go_enter func80,ntmps80;go_wp2_with (go_at_call 126;(with_reducible refine(may addr h0 h1 _).mono ?_);rintro e w1 ⟨rfl,rfl⟩);go_ret;exact⟨rfl,rfl⟩
 |true=>
  have hp:7<perm:=by rw[hm] at hb;simpa using hb
  clear hb;go_enter func80,ntmps80;go_wp2_with (go_at_call 126;(with_reducible refine(may addr h0 h1 _).mono ?_);rintro e w1 ⟨rfl,rfl⟩);go_ret;exact⟨rfl,rfl⟩
theorem map_have{w:World}{sb mb:Nat}{A:List Pg}(h:Spc w sb mb A)(addr perm:Int)(h0:0≤addr)(h1:addr≤4294967295)(p0:0≤perm)(p1:perm≤7)(hm:mayB addr=true){p:Pg}(hp:pageAt A addr=some p):
  Calls Tryz.prog 80 #[.pointer (some ⟨sb,0,none⟩),.int .u32 addr,.int .u8 perm] w fun e w'=>e=.returned (.int .i64 9)∧w=w':=by
 have H:=Lh h;have Hp:=Lh hp;clear h hp;go_enter func80,ntmps80;go_wp2_with (first|(go_at_call 126;(with_reducible refine(may addr h0 h1 _).mono ?_);rintro e w1 ⟨rfl,rfl⟩)|(go_at_call 110;(with_reducible refine(at_some H.out _ (by omega) (by omega) Hp.out).mono ?_);rintro e w1 ⟨rfl,rfl⟩));go_ret;exact⟨rfl,rfl⟩
theorem map_ok{w:World}{sb mb:Nat}{A:List Pg}(h:Spc w sb mb A)(addr perm:Int)(h0:0≤addr)(h1:addr≤4294967295)(p0:0≤perm)(p1:perm≤7)(hm:mayB addr=true)(hp:pageAt A addr=none):
  Calls Tryz.prog 80 #[.pointer (some ⟨sb,0,none⟩),.int .u32 addr,.int .u8 perm] w fun e w'=>e=.returned (.int .i64 0)∧Spc w' sb mb (insPg (pgNew addr w.heap.size perm) A)∧Mod (fun k=>k=mb) w w':=by
 have ha:addr % 256=0∧addr<1048576:=by unfold mayB at hm;simpa using hm
 have hp':atAddr A addr=none:=by have:=hp;unfold pageAt at this;rw[ha.1,Int.sub_zero] at this;exact this
 have hzs:=zero_set perm;have h2:Spc (w.alloc (.cells (pgZero perm) 236)) sb mb A:=h.keep ((Mod.refl (fun _=>False) w).alloc _) fun _ _ g=>g
 obtain⟨w',hrun,hsp,hmod⟩:=h2.insert addr perm h0 ha.2 ha.1 p0 p1 hp' w.heap.size (by rw[pgZero_eq addr w.heap.size perm];exact heap_alloc_new _ _) (fun g=>by have:=h.lt g;omega);have hc:=h.cellHead;have H:=Lh h;have Hp:=Lh hp;have Hs:=Lh hsp;have Hm:=Lh hmod;clear h hp h2 hsp hmod ha hp';go_enter func80,ntmps80;go_wp2_with (first|(go_at_call 126;(with_reducible refine(may addr h0 h1 _).mono ?_);rintro e w1 ⟨rfl,rfl⟩)|(go_at_call 110;(with_reducible refine(at_none H.out _ (by omega) (by omega) Hp.out).mono ?_);rintro e w1 ⟨rfl,rfl⟩));go_ret;exact⟨rfl,Hs.out,((Mod.refl _ _).alloc _).same Hm.out⟩
def mapA(A:List Pg)(addr:Int)(blk:Nat)(perm:Int):List Pg:=if mapE A addr perm=0 then insPg (pgNew addr blk perm) A else A
theorem map_any{w:World}{sb mb:Nat}{A:List Pg}(h:Spc w sb mb A)(addr perm:Int)(h0:0≤addr)(h1:addr≤4294967295)(p0:0≤perm)(p1:perm≤255):
  Calls Tryz.prog 80 #[.pointer (some ⟨sb,0,none⟩),.int .u32 addr,.int .u8 perm] w fun e w'=>e=.returned (.int .i64 (mapE A addr perm))∧Spc w' sb mb (mapA A addr w.heap.size perm)∧Mod (fun k=>k=mb) w w':=by
 by_cases hb:mayB addr=false∨7<perm
 ·have e:mapE A addr perm=2:=by unfold mapE;rw[if_pos hb]
  exact(map_arg h addr perm h0 h1 p0 p1 hb).mono fun x w' ⟨g1,g2⟩=>⟨by rw[g1,e],by unfold mapA;rw[e];exact g2▸h,g2▸Mod.refl _ _⟩
 ·have hm:mayB addr=true:=by cases hm:mayB addr<;>simp[hm] at hb⊢
  have hp7:perm≤7:=by omega
  cases hp:pageAt A addr with
  |some p=>
   have e:mapE A addr perm=9:=by unfold mapE;rw[if_neg hb,hp];rfl
   exact(map_have h addr perm h0 h1 p0 hp7 hm hp).mono fun x w' ⟨g1,g2⟩=>⟨by rw[g1,e],by unfold mapA;rw[e];exact g2▸h,g2▸Mod.refl _ _⟩
  |none=>
   have e:mapE A addr perm=0:=by unfold mapE;rw[if_neg hb,hp];rfl
   exact(map_ok h addr perm h0 h1 p0 hp7 hm hp).mono fun x w' ⟨g1,g2,g3⟩=>⟨by rw[g1,e],by unfold mapA;rw[e];exact g2,g3⟩
end Go.Proofs.YtnpicaigdfnmfaaGreat.Sp
namespace Go.Proofs.YtnpicaigdfnmfaaGreat
open Go.RowKit
def delPg(a:Int)(A:List Pg):List Pg:=A.filter fun p=>p.addr != a
theorem mem_delPg{a:Int}{A:List Pg}{p:Pg}:p∈delPg a A↔p∈A∧p.addr≠a:=by unfold delPg;simp
theorem atAddr_del(A:List Pg)(a x:Int):atAddr (delPg a A) x=if x=a then none else atAddr A x:=by
 unfold atAddr delPg;rw[List.find?_filter]
 by_cases e:x=a
 ·rw[if_pos e];refine List.find?_eq_none.2 fun p hp=> ?_
  simp[e]
 ·rw[if_neg e]
  congr 1
  funext p
  by_cases g:p.addr=x
  ·simp[g,e]
  ·simp[g]
theorem len_delPg{A:List Pg}(h:A.Pairwise fun p q=>p.addr<q.addr){a:Int}{p:Pg}(hp:atAddr A a=some p):(delPg a A).length+1=A.length:=by
 induction A with
 |nil=>cases hp
 |cons b r ih=>
  rw[List.pairwise_cons] at h
  by_cases e:b.addr=a
  ·have:delPg a r=r:=List.filter_eq_self.2 fun q hq=>by have:=h.1 q hq;simp;omega
   unfold delPg at this⊢;rw[List.filter_cons_of_neg (by simp[e]),this];rfl
  ·have h2:atAddr r a=some p:=by
    unfold atAddr at hp⊢;rw[List.find?_cons_of_neg (by simpa using e)] at hp;exact hp
   have:=ih h.2 h2;unfold delPg at this⊢;rw[List.filter_cons_of_pos (by simpa using e),List.length_cons,List.length_cons];omega
theorem Spc.remove{w w':World}{sb mb:Nat}{A:List Pg}{D:DataW Unit}{n:Nat}(h:Spc w sb mb A)(a:Int){p:Pg}(hp:atAddr A a=some p)
  (hD:w'.ownsMap Tryz.prog 42 ptrElem mb n (D.del (.int .u32 a))) (hv:∀x zd,D.atKey (.int .u32 x) zd=match atAddr A x with|some p=>.lit (.int .i64 p.blk)|none=>zd) (hs:Maps.size D=A.length) (hT:Maps.Tidy D) (hm:Mod (fun k=>k=mb) w w'):Spc w' sb mb (delPg a A):=by
 have hne:∀k,k<w.heap.size→k≠mb→w'.heap[k]? =w.heap[k]? :=fun k hk hkm=>hm.block k hk hkm
 refine⟨(hne sb (h.lt (.inl rfl)) h.ne_hm).trans h.head,⟨_,n,hD,fun x zd=> ?_, ?_⟩,fun q hq=> ?_,fun q hq=>h.ok q (mem_delPg.1 hq).1, ?_, ?_⟩
 ·rw[atAddr_del]
  by_cases e:x=a
  ·subst e;rw[if_pos rfl,Maps.atKey_del_same]
  ·rw[if_neg e,Maps.atKey_del_other (by intro g;apply e;simpa using g),hv]
   first|done|(cases atAddr A x<;>rfl)
 ·have h1:=Maps.size_del (k:=.int .u32 a) hT;have h2:Maps.has D (.int .u32 a)=true:=Maps.has_true_of_atKey (y:=.lit (.int .i64 p.blk)) fun zd=>by rw[hv,hp]
  rw[h2] at h1;have h3:=len_delPg h.up hp;simp at h1;omega
 ·have:=(mem_delPg.1 hq).1;exact(hne q.blk (lQ (h.page q this)) (h.ne_map this).symm).trans (h.page q this)
 ·exact h.up.filter _
 ·exact h.blks.filter _
namespace Sp
def unmapE(A:List Pg)(addr:Int):Int:=if mayB addr=false then 2 else if(pageAt A addr).isSome then 0 else 3
def unmapA(A:List Pg)(addr:Int):List Pg:=if unmapE A addr=0 then delPg addr A else A
theorem unmap_arg{w:World}{sb:Nat}(addr:Int)(h0:0≤addr)(h1:addr≤4294967295)(hm:mayB addr=false):
  Calls Tryz.prog 302 #[.pointer (some ⟨sb,0,none⟩),.int .u32 addr] w fun e w'=>e=.returned (.int .i64 2)∧w=w':=by
 go_enter func302,ntmps302;go_wp2_with (go_at_call 126;(with_reducible refine(may addr h0 h1 _).mono ?_);rintro e w1 ⟨rfl,rfl⟩);go_ret;exact⟨rfl,rfl⟩
theorem unmap_none{w:World}{sb mb:Nat}{A:List Pg}(h:Spc w sb mb A)(addr:Int)(h0:0≤addr)(h1:addr≤4294967295)(hm:mayB addr=true)(hp:pageAt A addr=none):
  Calls Tryz.prog 302 #[.pointer (some ⟨sb,0,none⟩),.int .u32 addr] w fun e w'=>e=.returned (.int .i64 3)∧w=w':=by
 have H:=Lh h;have Hp:=Lh hp;clear h hp;go_enter func302,ntmps302;go_wp2_with (first|(go_at_call 126;(with_reducible refine(may addr h0 h1 _).mono ?_);rintro e w1 ⟨rfl,rfl⟩)|(go_at_call 110;(with_reducible refine(at_none H.out _ (by omega) (by omega) Hp.out).mono ?_);rintro e w1 ⟨rfl,rfl⟩));go_ret;exact⟨rfl,rfl⟩
theorem unmap_ok{w:World}{sb mb:Nat}{A:List Pg}(h:Spc w sb mb A)(addr:Int)(h0:0≤addr)(h1:addr≤4294967295)(hm:mayB addr=true){p:Pg}(hp:pageAt A addr=some p):
  Calls Tryz.prog 302 #[.pointer (some ⟨sb,0,none⟩),.int .u32 addr] w fun e w'=>e=.returned (.int .i64 0)∧Spc w' sb mb (delPg addr A)∧Mod (fun k=>k=mb) w w':=by
 have ha:addr % 256=0∧addr<1048576:=by unfold mayB at hm;simpa using hm
 have hp':atAddr A addr=some p:=by have:=hp;unfold pageAt at this;rw[ha.1,Int.sub_zero] at this;exact this
 have K:=Maps.int_keyed (P:=Tryz.prog) Tryz.underlying42;have hk:=Maps.keyOf_int_mk (P:=Tryz.prog) Tryz.underlying42 (wf_u32 h0 h1);obtain⟨D,n,ho,hv,hs⟩:=h.map;have hT:=(own_tight ho).tidy K;have fin:∀w',w'.ownsMap Tryz.prog 42 ptrElem mb n (D.del (.int .u32 addr))→w.grownBy w' (some mb)→Spc w' sb mb (delPg addr A)∧Mod (fun k=>k=mb) w w':=fun w' g1 g2=>
  have hmod:Mod (fun k=>k=mb) w w':=⟨g2.os,g2.tape,g2.output,g2.size,fun k hk hkm=>g2.block k hk (by simpa using hkm)⟩
  ⟨h.remove addr hp' g1 hv hs hT hmod,hmod⟩
 have Fin:=Lh fin;have Ho:=Lh ho;have hc:=h.cellHead;have H:=Lh h;have Hp:=Lh hp;clear h hp ha hp' fin ho hv hs hT;go_enter func302,ntmps302;go_wp2_with (first|(go_at_call 126;(with_reducible refine(may addr h0 h1 _).mono ?_);rintro e w1 ⟨rfl,rfl⟩)|(go_at_call 110;(with_reducible refine(at_some H.out _ (by omega) (by omega) Hp.out).mono ?_);rintro e w1 ⟨rfl,rfl⟩)|(at_delete;refine wpList_delete_own _ rfl _ _ 272 42 rfl 237 K Tryz.underlying272 ptrElem mb n D rfl Ho.out _ _ rfl hk ?_;intro w1 hown1 hgrow1));go_ret;exact⟨rfl,(Fin.out _ hown1 hgrow1.grown).1,(Fin.out _ hown1 hgrow1.grown).2⟩
theorem unmap_any{w:World}{sb mb:Nat}{A:List Pg}(h:Spc w sb mb A)(addr:Int)(h0:0≤addr)(h1:addr≤4294967295):
  Calls Tryz.prog 302 #[.pointer (some ⟨sb,0,none⟩),.int .u32 addr] w fun e w'=>e=.returned (.int .i64 (unmapE A addr))∧Spc w' sb mb (unmapA A addr)∧Mod (fun k=>k=mb) w w':=by
 cases hm:mayB addr with
 |false=>
  have e:unmapE A addr=2:=by unfold unmapE;rw[if_pos hm]
  exact(unmap_arg addr h0 h1 hm).mono fun x w' ⟨g1,g2⟩=>⟨by rw[g1,e],by unfold unmapA;rw[e];exact g2▸h,g2▸Mod.refl _ _⟩
 |true=>
  cases hp:pageAt A addr with
  |none=>
   have e:unmapE A addr=3:=by unfold unmapE;rw[hm,hp];rfl
   exact(unmap_none h addr h0 h1 hm hp).mono fun x w' ⟨g1,g2⟩=>⟨by rw[g1,e],by unfold unmapA;rw[e];exact g2▸h,g2▸Mod.refl _ _⟩
  |some p=>
   have e:unmapE A addr=0:=by unfold unmapE;rw[hm,hp];rfl
   exact(unmap_ok h addr h0 h1 hm hp).mono fun x w' ⟨g1,g2,g3⟩=>⟨by rw[g1,e],by unfold unmapA;rw[e];exact g2,g3⟩
def permV(A:List Pg)(addr:Int):Int:=match pageAt A addr with|some p=>p.perm|none=>0
def permB(A:List Pg)(addr:Int):Bool:=(pageAt A addr).isSome
theorem perm_any{w:World}{sb mb:Nat}{A:List Pg}(h:Spc w sb mb A)(addr:Int)(h0:0≤addr)(h1:addr≤4294967295):
  Calls Tryz.prog 228 #[.pointer (some ⟨sb,0,none⟩),.int .u32 addr] w fun e w'=>e=.returned (.tuple #[.int .u8 (permV A addr),.bool (permB A addr)])∧w=w':=by
 cases hp:pageAt A addr with
 |none=>
  have e1:=Lh (show permV A addr=0 by unfold permV;rw[hp]);have e2:=Lh (show permB A addr=false by unfold permB;rw[hp];rfl);have H:=Lh h;have Hp:=Lh hp;clear h hp;go_enter func228,ntmps228;go_wp2_with (go_at_call 110;(with_reducible refine(at_none H.out _ (by omega) (by omega) Hp.out).mono ?_);rintro e w1 ⟨rfl,rfl⟩);go_ret2;exact⟨by rw[e1.out,e2.out];rfl,rfl⟩
 |some p=>
  have e1:=Lh (show permV A addr=p.perm by unfold permV;rw[hp]);have e2:=Lh (show permB A addr=true by unfold permB;rw[hp];rfl);have hcp:=h.cellPerm (atAddr_mem hp).1;have H:=Lh h;have Hp:=Lh hp;clear h hp;go_enter func228,ntmps228;go_wp2_with (go_at_call 110;(with_reducible refine(at_some H.out _ (by omega) (by omega) Hp.out).mono ?_);rintro e w1 ⟨rfl,rfl⟩);go_ret2;exact⟨by rw[e1.out,e2.out];rfl,rfl⟩
theorem set{w:World}{sb mb:Nat}{A:List Pg}(h:Spc w sb mb A)(addr:Int)(s:ByteArray)(h0:0≤addr)(h1:addr≤4294967295)(hn:s.size≤140737488355328):
  Calls Tryz.prog 83 #[.pointer (some ⟨sb,0,none⟩),.int .u32 addr,.string s] w fun e w'=>e=.returned (.int .i64 (fitsE A addr s.size 0))∧Spc w' sb mb (putA A addr 0 s)∧Mod (pgBlk A) w w':=by
 have H:=Lh h;clear h;go_enter func83,ntmps83;go_wp2_with (go_at_call 130;(with_reducible refine(put_any H.out addr 0 s h0 h1 hn (by omega) (by omega)).mono ?_);rintro e w1 ⟨rfl,hb⟩);go_ret;exact⟨rfl,by assumption⟩
end Sp
end Go.Proofs.YtnpicaigdfnmfaaGreat
namespace Go.Proofs.YtnpicaigdfnmfaaGreat.Sp
open Go.RowKit
structure Own(w0 w:World)(sb mb:Nat)(A:List Pg):Prop where
 spc:Spc w sb mb A
 base:∀k,Spc.foot sb mb A k→w0.heap.size≤k
 bel:Below w0.heap.size w0 w
theorem foot_insPg{sb mb:Nat}{A:List Pg}{p:Pg}{k:Nat}:Spc.foot sb mb (insPg p A) k↔k=p.blk∨Spc.foot sb mb A k:=by
 unfold Spc.foot
 constructor
 ·rintro(h|h|⟨q,hq,rfl⟩)
  ·exact .inr (.inl h)
  ·exact .inr (.inr (.inl h))
  ·rcases mem_insPg.1 hq with rfl|hq'
   ·exact .inl rfl
   ·exact .inr (.inr (.inr ⟨q,hq',rfl⟩))
 ·rintro(h|h|h|⟨q,hq,rfl⟩)
  ·exact .inr (.inr ⟨p,mem_insPg.2 (.inl rfl),h⟩)
  ·exact .inl h
  ·exact .inr (.inl h)
  ·exact .inr (.inr ⟨q,mem_insPg.2 (.inr hq),rfl⟩)
theorem foot_mapA{sb mb:Nat}{A:List Pg}{addr perm:Int}{blk k:Nat}(h:Spc.foot sb mb (mapA A addr blk perm) k):k=blk∨Spc.foot sb mb A k:=by
 unfold mapA at h
 split at h
 ·exact foot_insPg.1 h
 ·exact .inr h
theorem foot_putA{sb mb:Nat}{A:List Pg}{addr need:Int}{s:ByteArray}{k:Nat}:Spc.foot sb mb (putA A addr need s) k↔Spc.foot sb mb A k:=by
 unfold putA
 split
 ·exact foot_putN
 ·exact Iff.rfl
end Go.Proofs.YtnpicaigdfnmfaaGreat.Sp
namespace Go.Proofs.YtnpicaigdfnmfaaGreat
open Go.RowKit
def SlV(w:World)(e:TypeId)(s:Nat)(v:Value)(n:Nat)(xs:List Value):Prop:=
 xs.length=n*s∧
 (
  (n=0∧∃a,v=.slice a 0 0)∨
  ∃g off cap cur,v=.slice (some ⟨g,off,none⟩) n cap∧w.heap[g]? =some (.cells cur e (0,0))∧n≤cap∧cap≤maxLen∧off+cap*s≤cur.size∧∀j,j<n*s→cur[off+j]? =xs[j]?)
theorem SlV.nil(w:World)(e:TypeId)(s:Nat):SlV w e s (.slice none 0 0) 0 []:=⟨by simp,.inl ⟨rfl,none,rfl⟩⟩
theorem SlV.of_own{w:World}{base:Nat}{e:TypeId}{s:Nat}{v:Value}{n:Nat}{xs:List Value}(h:w.ownsRow base e s v n xs):SlV w e s v n xs:=by
 obtain⟨hl,h⟩:=h;refine⟨hl, ?_⟩;rcases h with⟨rfl,hn⟩|⟨g,cap,cur,rfl,_,hg,hc,hm,hs,ht⟩
 ·subst hn;exact .inl ⟨rfl,none,rfl⟩
 ·refine .inr ⟨g,0,cap,cur,rfl,hg,hc,hm,by omega,fun j hj=> ?_⟩;rw[Nat.zero_add,←ht,List.getElem?_take_of_lt hj]
  simp
theorem SlV.keep{w w':World}{e:TypeId}{s:Nat}{v:Value}{n:Nat}{xs:List Value}(h:SlV w e s v n xs)(hk:∀g,v.ownBlock=some g→w'.heap[g]? =w.heap[g]?):SlV w' e s v n xs:=by
 obtain⟨hl,h⟩:=h;refine⟨hl, ?_⟩;rcases h with h|⟨g,off,cap,cur,rfl,hg,rest⟩
 ·exact .inl h
 ·exact .inr ⟨g,off,cap,cur,rfl,(hk g rfl).trans hg,rest⟩
theorem SlV.lt{w:World}{e:TypeId}{s:Nat}{v:Value}{n:Nat}{xs:List Value}(h:SlV w e s v n xs)(hn:0<n):∃g,v.ownBlock=some g∧g<w.heap.size:=by
 rcases h.2 with⟨h0,_⟩|⟨g,off,cap,cur,rfl,hg,_⟩
 ·omega
 ·exact⟨g,rfl,(Array.getElem?_eq_some_iff.1 hg).1⟩
theorem SlV.form{w:World}{e:TypeId}{s:Nat}{v:Value}{n:Nat}{xs:List Value}(h:SlV w e s v n xs):∃a cap,v=.slice a n cap:=by
 rcases h.2 with⟨rfl,a,rfl⟩|⟨g,off,cap,cur,rfl,_⟩
 ·exact⟨a,0,rfl⟩
 ·exact⟨_,cap,rfl⟩
theorem SlV.cell{w:World}{e:TypeId}{s:Nat}{g off n cap:Nat}{xs:List Value}(h:SlV w e s (.slice (some ⟨g,off,none⟩) n cap) n xs)(j:Nat)(hj:j<n*s):w.cell? ⟨g,off+j,none⟩=xs[j]? :=by
 rcases h.2 with⟨rfl,_⟩|⟨g',off',cap',cur,hv,hg,_,_,_,hc⟩
 ·omega
 ·simp only[Value.slice.injEq,Option.some.injEq,Addr.mk.injEq,and_true,true_and] at hv;obtain⟨⟨rfl,rfl⟩,rfl⟩:=hv;rw[←hc j hj];unfold World.cell?;rw[hg];rfl
theorem SlV.free{w:World}{e:TypeId}{s:Nat}{g off n cap:Nat}{xs:List Value}(h:SlV w e s (.slice (some ⟨g,off,none⟩) n cap) n xs)(hn:0<n)(j:Nat):w.frozen? ⟨g,j,none⟩=false:=by
 rcases h.2 with⟨rfl,_⟩|⟨g',off',cap',cur,hv,hg,_⟩
 ·omega
 ·simp only[Value.slice.injEq,Option.some.injEq,Addr.mk.injEq,and_true,true_and] at hv;obtain⟨⟨rfl,rfl⟩,rfl⟩:=hv;unfold World.frozen?;rw[hg]
  simp
theorem heap_setCells_same(g:Nat)(e:TypeId):∀(news:List Value) (w:World) (k:Nat) (cur:Array Value),w.heap[g]? =some (.cells cur e (0,0))→k+news.length≤cur.size→
  ∃cur',(w.setCells g k news).heap[g]? =some (.cells cur' e (0,0))∧cur'.size=cur.size∧(∀j,j<k→cur'[j]? =cur[j]?)∧(∀j,j<news.length→cur'[k+j]? =news[j]?)
 | [],w,k,cur,h,_=>⟨cur,by simpa [World.setCells] using h,rfl,fun _ _=>rfl,fun j hj=>by simp at hj⟩
 |u::r,w,k,cur,h,hk=>by
  have h1:=heap_setCell_same w g k cur e u h;obtain⟨cur',c1,c2,c3,c4⟩:=heap_setCells_same g e r (w.setCell ⟨g,k,none⟩ u) (k+1) _ h1 (by simp at hk⊢;omega);refine⟨cur',by simpa [World.setCells] using c1,by rw[c2];simp,fun j hj=> ?_,fun j hj=> ?_⟩
  ·rw[c3 j (by omega),Array.getElem?_setIfInBounds,if_neg (by omega)]
  ·cases j with
   |zero=>
    rw[Nat.add_zero,c3 k (by omega),Array.getElem?_setIfInBounds,if_pos rfl,if_pos (by simp at hk;omega)];rfl
   |succ j=>
    have:=c4 j (by simp at hj;omega);rw[show k+(j+1)=k+1+j by omega,this];rfl
theorem mod_setCells(g:Nat):∀(news:List Value) (w:World) (k:Nat),Mod (fun i=>i=g) w (w.setCells g k news)
 | [],w,k=>by simpa [World.setCells] using Mod.refl _ w
 |u::r,w,k=>by
  have:=((Mod.refl (fun i=>i=g) w).setCell ⟨g,k,none⟩ (.inl rfl) u).same (mod_setCells g r (w.setCell ⟨g,k,none⟩ u) (k+1))
  simpa [World.setCells] using this
theorem SlV.append{P:Program}{w:World}{t e:TypeId}{s bytes:Nat}{v:Value}{n:Nat}{xs:List Value}(h:SlV w e s v n xs)(ty:TypeId)(i:TypeInfo)(z:Value)(ht:P.underlying t=some (.slice e))(hi:P.info? e=some i)(hz:i.zero=some z)
  (hsize:i.size=s) (hby:i.bytes=bytes) (hzs:z.cells.size=s) (hsz:0<s) (a:Addr) (m c:Nat) (news:List Value) (hm:0<m) (hl:news.length=m*s) (hnews:∀j u,news[j]? =some u→w.cell? (a.add j)=some u) (h1:∀u∈news,u.oneCell'=true)
  (h63:n+m≤maxLen) (hbytes:(n+m)*bytes≤140737488355328):
  ∃v' w',(Builtin.append_ #[t,t] ty #[v,.slice (some a) m c]).run P w=.ok v' w'∧SlV w' e s v' (n+m) (xs++news)∧Mod (fun k=>v.ownBlock=some k) w w'∧(v'.ownBlock=v.ownBlock∨∃k,v'.ownBlock=some k∧w.heap.size≤k):=by
 have grown:∀ {v':Value} {w':World} {ys:List Value},w'.ownsRow w.heap.size e s v' (n+m) ys→w.grownBy w' none→Mod (fun k=>v.ownBlock=some k) w w'∧(v'.ownBlock=v.ownBlock∨∃k,v'.ownBlock=some k∧w.heap.size≤k):=by
  intro v' w' ys ho hg;refine⟨⟨hg.os,hg.tape,hg.output,hg.size,fun k hk _=>hg.block k hk (by simp)⟩,.inr ?_⟩;rcases ho.2 with⟨_,h0⟩|⟨g,cap,cur,rfl,hb,_⟩
  ·omega
  ·exact⟨g,rfl,hb⟩
 rcases h.2 with⟨rfl,b,rfl⟩|⟨g,off,cap,cur,rfl,hg,hc,hcm,hcs,hcell⟩
 ·have hx:xs=[]:=List.length_eq_zero_iff.1 (by rw[h.1];simp);subst hx;cases b with
  |none=>
   obtain⟨v',w',hrun,ho,hg,_⟩:=run_append_own (P:=P) w w.heap.size t ty e i z s bytes ht hi hz hsize hby hzs hsz (.slice none 0 0) 0 [] (World.ownsRow_nil _ _ _ _) a m c news hl hnews h1 h63 hbytes (Nat.le_refl _);obtain⟨g1,g2⟩:=grown ho (by simpa [Value.ownBlock] using hg);exact⟨v',w',hrun,SlV.of_own ho,g1,g2⟩
  |some b=>
   obtain⟨v',w',hrun,ho,hg⟩:=run_append_arg_grows (P:=P) w t ty e i z s bytes ht hi hz hsize hby hzs hsz b 0 0 [] (by simp) (fun j u hj=>by simp at hj) a m c news hl hnews (by omega) h63 hbytes;obtain⟨g1,g2⟩:=grown ho hg;exact⟨v',w',hrun,SlV.of_own ho,g1,g2⟩
 ·by_cases hroom:n+m≤cap
  ·have hsp:∀j,j<news.length→off+n*s+j<cur.size:=fun j hj=>by
    have:(n+m)*s≤cap*s:=Nat.mul_le_mul_right _ hroom;rw[Nat.add_mul] at this;omega
   have hrun:=run_append_room_cells (P:=P) w t ty e i ht hi g off n cap a m c news (by rw[hsize];exact hl) hnews h1 hroom (fun j hj=>by
    unfold World.cell?;rw[hg,hsize];simp[Array.getElem?_eq_getElem (hsp j hj)]) (fun j _=>by unfold World.frozen?;rw[hg];simp)
   rw[hsize] at hrun;obtain⟨cur',c1,c2,c3,c4⟩:=heap_setCells_same g e news w (off+n*s) cur hg (by
    have:(n+m)*s≤cap*s:=Nat.mul_le_mul_right _ hroom;rw[Nat.add_mul] at this;omega)
   refine⟨_,_,hrun,⟨by rw[List.length_append,h.1,hl,Nat.add_mul],.inr ⟨g,off,cap,cur',rfl,c1,hroom,hcm,by rw[c2];exact hcs,fun j hj=> ?_⟩⟩,(mod_setCells g news w _).mono fun k _ hk=>by simp[Value.ownBlock,hk],.inl rfl⟩
   by_cases hj2:j<n*s
   ·rw[c3 _ (by omega),hcell j hj2,List.getElem?_append_left (by rw[h.1];exact hj2)]
   ·rw[List.getElem?_append_right (by rw[h.1];omega),h.1];have:=c4 (j - n*s) (by rw[Nat.add_mul] at hj;omega);rw[show off+n*s+(j - n*s)=off+j by omega] at this;exact this
  ·obtain⟨v',w',hrun,ho,hgr⟩:=run_append_arg_grows (P:=P) w t ty e i z s bytes ht hi hz hsize hby hzs hsz ⟨g,off,none⟩ n cap xs h.1 (fun j u hj=>by
    have hjl:j<n*s:=by rw[←h.1];exact(List.getElem?_eq_some_iff.1 hj).1
    have hadd:(⟨g,off,none⟩:Addr).add j=⟨g,off+j,none⟩:=by unfold Addr.add;split<;>simp_all
    rw[hadd,h.cell j hjl,hj]) a m c news hl hnews (by omega) h63 hbytes
   obtain⟨g1,g2⟩:=grown ho hgr;exact⟨v',w',hrun,SlV.of_own ho,g1,g2⟩
theorem wpList_append_slv{P:Program}(w:World){ops:Array Oper}{rest:List Oper}{o:Oper}{ac:Act}{Q:Exit→Act→World→Prop}(hgd:o.guard=none)(sl x:Operand)(t:TypeId)
  (ho:o.op=.call { callee:=.builtin .append,args:= #[sl,x],argTypes:= #[t,t] })
  (e:TypeId) (i:TypeInfo) (z:Value) (s bytes:Nat) (ht:P.underlying t=some (.slice e)) (hi:P.info? e=some i) (hz:i.zero=some z) (hsize:i.size=s) (hby:i.bytes=bytes) (hzs:z.cells.size=s) (hsz:0<s)
  (v:Value) (n:Nat) (xs:List Value) (hs:ac.eval sl=v) (h:SlV w e s v n xs)
  (a:Addr) (m c:Nat) (news:List Value) (hx:ac.eval x=.slice (some a) m c) (hm:0<m) (hl:news.length=m*s) (hnews:∀j u,news[j]? =some u→w.cell? (a.add j)=some u) (h1:∀u∈news,u.oneCell'=true)
  (h63:n+m≤maxLen) (hbytes:(n+m)*bytes≤140737488355328)
  (hK:∀v' w',SlV w' e s v' (n+m) (xs++news)→Mod (fun k=>v.ownBlock=some k) w w'→(v'.ownBlock=v.ownBlock∨∃k,v'.ownBlock=some k∧w.heap.size≤k)→wpList P ops Q rest (ac.put o.dst v') w'):wpList P ops Q (o::rest) ac w:=by
 refine wpList_plain hgd fun K hK'=> ?_
 obtain⟨v',w',hrun,r1,r2,r3⟩:=h.append (P:=P) o.type i z ht hi hz hsize hby hzs hsz a m c news hm hl hnews h1 h63 hbytes;unfold Oper.wp;simp[execOp,ho,resolve,invoke,builtin,hs,hx,hrun,Result.andThen];exact hK' _ _ (hK v' w' r1 r2 r3)
theorem step_append_slv{P:Program}{w:World}{ops:Array Oper}{o:Oper}{ac:Act}{K:Act→World→Prop}{Q:Exit→Act→World→Prop}{E:Prop}(hgd:o.guard=none)(sl x:Operand)(t:TypeId)
  (ho:o.op=.call { callee:=.builtin .append,args:= #[sl,x],argTypes:= #[t,t] })
  (e:TypeId) (i:TypeInfo) (z:Value) (s bytes:Nat) (ht:P.underlying t=some (.slice e)) (hi:P.info? e=some i) (hz:i.zero=some z) (hsize:i.size=s) (hby:i.bytes=bytes) (hzs:z.cells.size=s) (hsz:0<s)
  (v:Value) (n:Nat) (xs:List Value) (hs:ac.eval sl=v) (h:SlV w e s v n xs)
  (a:Addr) (m c:Nat) (news:List Value) (hx:ac.eval x=.slice (some a) m c) (hm:0<m) (hl:news.length=m*s) (hnews:∀j u,news[j]? =some u→w.cell? (a.add j)=some u) (h1:∀u∈news,u.oneCell'=true)
  (h63:n+m≤maxLen) (hbytes:(n+m)*bytes≤140737488355328)
  (hK:∀v' w',SlV w' e s v' (n+m) (xs++news)→Mod (fun k=>v.ownBlock=some k) w w'→(v'.ownBlock=v.ownBlock∨∃k,v'.ownBlock=some k∧w.heap.size≤k)→K (ac.put o.dst v') w'):
  if Region.wanted o (yielded ops ac.tmps)=true then Oper.wp P o ac w K Q else E:=by
 have hw:Region.wanted o (yielded ops ac.tmps)=true:=by simp[Region.wanted,hgd]
 rw[if_pos hw];obtain⟨v',w',hrun,r1,r2,r3⟩:=h.append (P:=P) o.type i z ht hi hz hsize hby hzs hsz a m c news hm hl hnews h1 h63 hbytes;unfold Oper.wp;simp[execOp,ho,resolve,invoke,builtin,hs,hx,hrun,Result.andThen];exact hK v' w' r1 r2 r3
structure Rp where
 pg:Pg
 bb:Nat
 cap:Nat
def Rp.ptr(q:Rp):Value:=.pointer (some ⟨q.pg.blk,0,none⟩)
structure RPage(w:World)(q:Rp):Prop where
 page:w.heap[q.pg.blk]? =some (.cells #[.int .u32 q.pg.addr,.int .u8 q.pg.perm,.slice (some ⟨q.bb,0,none⟩) 256 q.cap] 279 (0,0))
 data:∃cur,w.heap[q.bb]? =some (.cells cur 5 (0,0))∧cur.size=q.cap∧∀j,j<256→cur[j]? =some (.int .u8 (q.pg.bytes.getD j 0))
 cap1:256≤q.cap
 cap2:q.cap≤maxLen
 ok:q.pg.ok
structure Rsp(w:World)(rb:Nat)(lv:Value)(R:List Rp):Prop where
 head:w.heap[rb]? =some (.cells #[lv] 201 (0,0))
 list:w.ownsRow 0 276 1 lv R.length (R.map Rp.ptr)
 pages:∀q,q∈R→RPage w q
 up:(R.map (·.pg)).Pairwise fun p q=>p.addr<q.addr
 bbs:R.Pairwise fun p q=>p.bb≠q.bb
def rpgs(R:List Rp):List Pg:=R.map (·.pg)
def Rsp.foot(rb:Nat)(lv:Value)(R:List Rp)(k:Nat):Prop:=k=rb∨lv.ownBlock=some k∨∃q,q∈R∧(k=q.pg.blk∨k=q.bb)
theorem RPage.keep{w w':World}{q:Rp}(h:RPage w q)(h1:w'.heap[q.pg.blk]? =w.heap[q.pg.blk]?)(h2:w'.heap[q.bb]? =w.heap[q.bb]?):RPage w' q:=by
 obtain⟨cur,hb,rest⟩:=h.data;exact⟨h1.trans h.page,⟨cur,h2.trans hb,rest⟩,h.cap1,h.cap2,h.ok⟩
theorem RPage.lt1{w:World}{q:Rp}(h:RPage w q):q.pg.blk<w.heap.size:=lQ h.page
theorem RPage.lt2{w:World}{q:Rp}(h:RPage w q):q.bb<w.heap.size:=by obtain⟨cur,hb,_⟩:=h.data;exact lQ hb
theorem Rsp.lt{w:World}{rb:Nat}{lv:Value}{R:List Rp}(h:Rsp w rb lv R){k:Nat}(hk:Rsp.foot rb lv R k):k<w.heap.size:=by
 rcases hk with rfl|hk|⟨q,hq,rfl|rfl⟩
 ·exact lQ h.head
 ·exact(h.list.lt k hk).2
 ·exact(h.pages q hq).lt1
 ·exact(h.pages q hq).lt2
theorem Rsp.frame{w w':World}{rb:Nat}{lv:Value}{R:List Rp}(h:Rsp w rb lv R)(hf:∀k,Rsp.foot rb lv R k→w'.heap[k]? =w.heap[k]?):Rsp w' rb lv R:=by
 refine⟨(hf rb (.inl rfl)).trans h.head, ?_,fun q hq=>(h.pages q hq).keep (hf _ (.inr (.inr ⟨q,hq,.inl rfl⟩))) (hf _ (.inr (.inr ⟨q,hq,.inr rfl⟩))),h.up,h.bbs⟩;obtain⟨hl,g⟩:=h.list;refine⟨hl,g.imp id ?_⟩;rintro⟨g1,cap,cur,rfl,h1,h2,rest⟩;exact⟨g1,cap,cur,rfl,h1,(hf g1 (.inr (.inl rfl))).trans h2,rest⟩
theorem Rsp.below{w w':World}{rb:Nat}{lv:Value}{R:List Rp}{B:Nat}(h:Rsp w rb lv R)(hm:Below B w w')(hf:∀k,Rsp.foot rb lv R k→k<B):Rsp w' rb lv R:=h.frame fun k hk=>hm.block k (hf k hk)
theorem Rsp.same{w w':World}{rb:Nat}{lv:Value}{R:List Rp}(h:Rsp w rb lv R)(hm:Below w.heap.size w w'):Rsp w' rb lv R:=h.below hm fun k hk=>h.lt hk
theorem Rsp.cellHead{w:World}{rb:Nat}{lv:Value}{R:List Rp}(h:Rsp w rb lv R):w.cell? ⟨rb,0,none⟩=some lv:=by unfold World.cell?;rw[h.head];rfl
theorem RPage.cells{w:World}{q:Rp}(h:RPage w q):w.cell? ⟨q.pg.blk,0,none⟩=some (.int .u32 q.pg.addr)∧w.cell? ⟨q.pg.blk,1,none⟩=some (.int .u8 q.pg.perm)∧w.cell? ⟨q.pg.blk,2,none⟩=some (.slice (some ⟨q.bb,0,none⟩) 256 q.cap):=by
 refine⟨?_, ?_, ?_⟩<;>(unfold World.cell?;rw[h.page];rfl)
theorem RPage.byte{w:World}{q:Rp}(h:RPage w q)(j:Nat)(hj:j<256):w.cell? ⟨q.bb,j,none⟩=some (.int .u8 (q.pg.bytes.getD j 0)):=by
 obtain⟨cur,hb,_,hc⟩:=h.data;unfold World.cell?;rw[hb]
 simpa using hc j hj
theorem RPage.free{w:World}{q:Rp}(h:RPage w q)(j:Nat):w.frozen? ⟨q.bb,j,none⟩=false:=by
 obtain⟨cur,hb,_,hc⟩:=h.data;unfold World.frozen?;rw[hb]
 simp
theorem Rsp.row{w:World}{rb:Nat}{lv:Value}{R:List Rp}(h:Rsp w rb lv R):∃a cap,lv=.slice a R.length cap∧(0<R.length→∃g,a=some ⟨g,0,none⟩∧∀i q,R[i]? =some q→w.cell? ⟨g,i,none⟩=some q.ptr)∧R.length≤maxLen:=by
 obtain⟨hl,g⟩:=h.list;rcases g with⟨rfl,h0⟩|⟨g,cap,cur,rfl,_,hg,h1,h2,h3,h4⟩
 ·exact⟨none,0,by rw[h0],fun g=>by omega,by unfold maxLen;omega⟩
 ·refine⟨_,cap,rfl,fun _=>⟨g,rfl,fun i q hq=> ?_⟩,by omega⟩;have hi:=(List.getElem?_eq_some_iff.1 hq).1;unfold World.cell?;rw[hg];have h5:(cur.toList.take (R.length*1))[i]? =(R.map Rp.ptr)[i]? :=by rw[h4]
  rw[List.getElem?_take_of_lt (by omega),List.getElem?_map,hq] at h5
  simpa using h5
theorem Rsp.len{w:World}{rb:Nat}{lv:Value}{R:List Rp}(h:Rsp w rb lv R):R.length≤4096:=by
 have hok:∀p,p∈rpgs R→p.ok:=by
  intro p hp;obtain⟨q,hq,rfl⟩:=List.mem_map.1 hp;exact(h.pages q hq).ok
 have:=len_up h.up hok 0 (fun p hp=>(hok p hp).a0) (by omega);rw[List.length_map] at this;omega
namespace Rs
theorem may(x:Int)(h0:0≤x)(h1:x≤4294967295)(w:World):Calls Tryz.prog 127 #[.int .u32 x] w fun e w'=>e=.returned (.bool (Sp.mayB x))∧w=w':=by
 by_cases a:x % 256=0
 ·by_cases b:x<1048576
  ·go_enter func127,ntmps127;go_wp2;go_ret;exact⟨Sp.ret_bool (by unfold Sp.mayB;rw[decide_eq_true b,a];rfl),rfl⟩
  ·go_enter func127,ntmps127;go_wp2;go_ret;exact⟨Sp.ret_bool (by unfold Sp.mayB;rw[decide_eq_false (by omega)];simp),rfl⟩
 ·have a2:(x % 256 == 0)=false:=beq_eq_false_iff_ne.2 a;go_enter func127,ntmps127;go_wp2;go_ret;exact⟨Sp.ret_bool (by unfold Sp.mayB;rw[a2];rfl),rfl⟩
def ofRel(R:List Rp)(x:Int)(vi:Value):Prop:=∃i:Nat,vi=.int .i64 i∧i≤R.length∧∀q,q∈R.take i→q.pg.addr≠x - x % 256
theorem of_hit{R:List Rp}{x:Int}(hup:(rpgs R).Pairwise fun p q=>p.addr<q.addr){i:Nat}(hi:i<R.length)(h:R[i].pg.addr=x - x % 256):pageAt (rpgs R) x=some R[i].pg:=by
 unfold pageAt;rw[←h];exact atAddr_eq_some hup (List.mem_map.2 ⟨_,List.getElem_mem hi,rfl⟩)
theorem of_miss{R:List Rp}{x:Int}(h:∀q,q∈R→q.pg.addr≠x - x % 256):pageAt (rpgs R) x=none:=by
 refine atAddr_eq_none fun p hp=> ?_
 obtain⟨q,hq,rfl⟩:=List.mem_map.1 hp;exact h q hq
theorem of{w:World}{rb:Nat}{lv:Value}{R:List Rp}(h:Rsp w rb lv R)(x:Int)(h0:0≤x)(h1:x≤18446744073709551615):
  Calls Tryz.prog 128 #[.pointer (some ⟨rb,0,none⟩),.int .u64 x] w fun e w'=>e=.returned (pgPtr (pageAt (rpgs R) x))∧w=w':=by
 obtain⟨a,cap,rfl,hrow,hmx⟩:=h.row;unfold maxLen at hmx;have hc:=h.cellHead;have H:=Lh h;have Hrow:=Lh hrow;clear h hrow;generalize hn:R.length=n at*;have Hn:=Lh hn;clear hn;go_enter func128,ntmps128;go_wp2;go_loop [5] (fun vi=>ofRel R x vi) (fun vi=>n - (intOf vi).toNat)
 case atStart=>exact⟨0,by go_num,Nat.zero_le _,fun q hq=>by simp at hq⟩
 case round=>
  obtain⟨i,rfl,hi,hno⟩:=hrel;rw[Hn.out] at hi;have Hno:=Lh hno;clear hno
  by_cases hin:i<n
  ·have hin2:i<R.length:=by rw[Hn.out];exact hin
   obtain⟨g,rfl,hcell⟩:=Hrow.out (by omega);have hci:w.cell? ⟨g,i,none⟩=some (R[i]).ptr:=hcell i _ (Zg hin2);have hpg:=H.out.pages R[i] (List.getElem_mem hin2);have hok:=hpg.ok;have b0:=hok.a0;have b1:=hok.a1;have b2:=hok.a2;obtain⟨c0,_,_⟩:=hpg.cells;have hA:=Lh (show∀x,R[i].pg.addr=x - x % 256→pageAt (rpgs R) x=some R[i].pg from fun x=>of_hit H.out.up hin2);have hB:=Lh (show R[i].pg.addr≠x - x % 256→∀q,q∈R.take (i+1)→q.pg.addr≠x - x % 256 from fun hne q hq=>by
    rw[List.take_succ_eq_append_getElem hin2,List.mem_append] at hq;rcases hq with hq|hq
    ·exact Hno.out q hq
    ·rw[List.mem_singleton.1 hq];exact hne)
   unfold Rp.ptr at hci;generalize R[i].pg.addr=y at*;generalize hqb:R[i].pg.blk=pb at*;have Hqb:=Lh hqb;clear hcell hpg hok hqb
   by_cases g1:y≤x
   ·by_cases g2:x<y+256
    ·have e:y=x - x % 256:=by omega
     have hP:=hA.out x e;have HP:=Lh hP;clear hP e hA hB;go_wp2;go_ret;exact⟨by rw[HP.out,←Hqb.out];rfl,rfl⟩
    ·have HB2:=Lh (hB.out (by omega));clear hA hB;go_wp2;go_round
     case rel=>exact⟨i+1,by go_num,by rw[Hn.out];omega,HB2.out⟩
     case measure=>simp[intOf];omega
   ·have g1z:decide (y≤x)=false:=decide_eq_false g1;have HB2:=Lh (hB.out (by omega));clear hA hB;go_wp2;go_round
    case rel=>exact⟨i+1,by go_num,by rw[Hn.out];omega,HB2.out⟩
    case measure=>simp[intOf];omega
  ·obtain rfl:i=n:=by omega
   have HP:=Lh (of_miss (R:=R) (x:=x) (fun q hq=>Hno.out q (by rw[List.take_of_length_le (by rw[Hn.out];exact Nat.le_refl _)];exact hq)));go_wp2;go_ret;exact⟨by rw[HP.out];rfl,rfl⟩
theorem of_none{w:World}{rb:Nat}{lv:Value}{R:List Rp}(h:Rsp w rb lv R)(x:Int)(h0:0≤x)(h1:x≤18446744073709551615)(hp:pageAt (rpgs R) x=none):
  Calls Tryz.prog 128 #[.pointer (some ⟨rb,0,none⟩),.int .u64 x] w fun e w'=>e=.returned (.pointer none)∧w=w':=by
 have:=of h x h0 h1;rw[hp] at this;exact this
theorem of_some{w:World}{rb:Nat}{lv:Value}{R:List Rp}(h:Rsp w rb lv R)(x:Int)(h0:0≤x)(h1:x≤18446744073709551615){p:Pg}(hp:pageAt (rpgs R) x=some p):
  Calls Tryz.prog 128 #[.pointer (some ⟨rb,0,none⟩),.int .u64 x] w fun e w'=>e=.returned (.pointer (some ⟨p.blk,0,none⟩))∧w=w':=by
 have:=of h x h0 h1;rw[hp] at this;exact this
end Rs
end Go.Proofs.YtnpicaigdfnmfaaGreat
