/- Base, Mod, Spc, Slv in one text. -/
import Derived.WalkKit
import Derived.RowKit3
import Derived.Lib.Hide
import Derived.Laws.BytesArg
import Derived.Laws.IdiomStrings
import Derived.Laws.BitsAllLaws
import Derived.Laws.Bits64
import Derived.Laws.OwnMore
import Derived.OwnWalk
import Derived.WalkSmall
import Derived.Lib.IndexBytes
import Derived.Maps.RangeWalk
import Derived.Laws.Rows
import Derived.Test.YtjjdjpdmgaipeaaGreatProg
import Derived.ArgAppend
import Derived.Deep.AppendLies
import Derived.Test.YtjjdjpdmgaipeaaGreatCwZa
set_option linter.unusedVariables false
set_option linter.unusedSimpArgs false
set_option maxRecDepth 100000
set_option maxHeartbeats 16000000
open Go.Proofs.Tryz
namespace Go.Proofs.YtjjdjpdmgaipeaaGreat
open Go.RowKit
theorem below_th{a b c:World}(h:Below a.heap.size a b)(k:Below b.heap.size b c):Below a.heap.size a c:=h.trans (k.mono h.size)
theorem ret_int{k:IntKind}{a b:Int}(h:a=b):Ending.returned (.int k a)=.returned (.int k b):=by rw[h]
theorem ret_str{a b:ByteArray}(h:a=b):Ending.returned (.string a)=.returned (.string b):=by rw[h]
theorem ret_ie{k:IntKind}{a b c:Int}(h:a=b):Ending.returned (.tuple #[.int k a,.int .i64 c])=.returned (.tuple #[.int k b,.int .i64 c]):=by rw[h]
def nums(s:ByteArray):List Int:=s.data.toList.map fun b=>(b.toNat:Int)
theorem nums_length(s:ByteArray):(nums s).length=s.size:=by
 unfold nums;rw[List.length_map,Array.length_toList];rfl
theorem nums_strOfNums(xs:List Int)(h:∀x,x∈xs→0≤x∧x<256):nums (strOfNums xs)=xs:=by
 unfold nums;rw[strOfNums_data,List.map_map]
 conv=>rhs;rw[←List.map_id xs]
 apply List.map_congr_left
 intro x hx;have:=h x hx
 show((UInt8.ofNat x.toNat).toNat:Int)=x
 rw[UInt8.toNat_ofNat'];omega
theorem nums_bd(s:ByteArray):∀x,x∈nums s→0≤x∧x<256:=by
 intro x hx;simp only[nums,List.mem_map] at hx;obtain⟨b,_,rfl⟩:=hx;exact⟨by omega,by have:=b.toNat_lt;omega⟩
theorem nums_at(s:ByteArray)(j:Nat)(hj:j<s.data.size):(nums s).getD j 0=(s.data[j].toNat:Int):=by
 simp only[nums,List.getD];rw[List.getElem?_map,Zg (by simpa using hj)]
 simp
theorem nums_get(s:ByteArray)(j:Nat)(hj:j<s.size):((s[j]'hj).toNat:Int)=(nums s).getD j 0:=(nums_at s j hj).symm
def Row8(w:World)(b:Nat)(xs:List Int):Prop:=∀i,i<xs.length→w.cell? ⟨b,0+i,none⟩=some (.int .u8 (xs.getD i 0))
theorem row8_of2{w:World}{b:Nat}{x y:Int}(h0:w.cell? ⟨b,0,none⟩=some (.int .u8 x))(h1:w.cell? ⟨b,1,none⟩=some (.int .u8 y)):Row8 w b [x,y]:=by
 intro i hi;have:i=0∨i=1:=by simp at hi;omega
 rcases this with rfl|rfl
 ·simpa using h0
 ·simpa using h1
theorem fresh_bytes(w:World)(s:ByteArray)(c j:Nat)(t:TypeId)(fr:Nat×Nat)(hj:j<s.size):(w.alloc (.cells (bytesRow s c) t fr)).drew.cell? ⟨w.heap.size,j,none⟩=some (.int .u8 ((nums s).getD j 0)):=by
 have h:=World.cell?_alloc_mark w (bytesRow s c) t fr j;rw[nums_at s j hj,←bytesRow_at s c j hj];exact h
theorem fresh_free(w:World)(s:ByteArray)(c j:Nat)(t:TypeId)(hj:j<s.size):(w.alloc (.cells (bytesRow s c) t ((bytesRow s c).size,(bytesRow s c).size+1))).drew.frozen? ⟨w.heap.size,j,none⟩=false:=by
 have h:=World.frozen?_alloc_mark w (bytesRow s c) t (bytesRow s c).size ((bytesRow s c).size+1) j;have e:decide ((bytesRow s c).size≤j)=false:=by
  apply decide_eq_false
  have:s.data.size≤(bytesRow s c).size:=by simp[bytesRow]
  have:s.size=s.data.size:=rfl;omega
 rw[e,Bool.false_and] at h;exact h
def Buf(w:World)(base:Nat)(e:TypeId)(v:Value)(xs:List Int):Prop:=w.ownsRow base e 1 v xs.length (xs.map (Value.int .u8))
theorem Buf.nil(w:World)(base:Nat)(e:TypeId):Buf w base e (.slice none 0 0) []:=World.ownsRow_nil _ _ _ _
theorem Buf.lt{w:World}{base:Nat}{e:TypeId}{v:Value}{xs:List Int}(h:Buf w base e v xs):∀k,v.ownBlock=some k→base≤k:=fun k hk=>(World.ownsRow.lt h k hk).1
theorem Buf.string{P:Program}{w:World}{base:Nat}{e:TypeId}{v:Value}{xs:List Int}(h:Buf w base e v xs)(src dst:TypeId)(hs:P.underlying src=some (.slice e))(he:P.underlying e=some (.int .u8))(hd:P.underlying dst=some .string):
  (convert src dst v).run P w=.ok (.string (strOfNums xs)) w:=by
 have h0:=h;rcases h.2 with⟨rfl,hn⟩|⟨g,cap,cur,rfl,_⟩
 ·have:xs=[]:=List.length_eq_zero_iff.1 hn;subst this;exact run_convert_bytes_nil w src e hs he 0 0 dst hd
 ·refine run_convert_bytes_arg w src e hs he g 0 xs.length cap xs rfl (fun i hi=> ?_) dst hd;rw[Nat.zero_add,World.ownsRow.cellAt h0 i (by omega),List.getElem?_map,List.getD,Zg hi];rfl
theorem Buf.app{w:World}{base:Nat}{e:TypeId}{v:Value}{xs ys:List Int}{n:Nat}(h:w.ownsRow base e 1 v n (xs.map (Value.int .u8)++ys.map (Value.int .u8))):Buf w base e v (xs++ys):=by
 have hl:=h.1;unfold Buf;rw[List.map_append];have:n=(xs++ys).length:=by simp at hl;simp;omega
 rw[←this];exact h
theorem nonempty_str(s:ByteArray)(h:0<s.size):s.toList.isEmpty=false:=by
 rw[ByteArray.toList_eq];have:0<s.data.toList.length:=by rw[Array.length_toList];exact h
 cases hl:s.data.toList with
 |nil=>rw[hl] at this;simp at this
 |cons a l=>rfl
theorem byte_bd(b:UInt8):0≤(b.toNat:Int)∧(b.toNat:Int)<256:=by have:=b.toNat_lt;omega
structure Mod(F:Nat→Prop)(w w':World):Prop where
 os:w'.os=w.os
 tape:w'.tape=w.tape
 output:w'.output=w.output
 size:w.heap.size≤w'.heap.size
 block:∀k,k<w.heap.size→¬F k→w'.heap[k]? =w.heap[k]?
theorem Mod.refl(F:Nat→Prop)(w:World):Mod F w w:=⟨rfl,rfl,rfl,Nat.le_refl _,fun _ _ _=>rfl⟩
theorem Mod.of_below{w w':World}(h:Below w.heap.size w w')(F:Nat→Prop):Mod F w w':=⟨h.os,h.tape,h.output,h.size,fun k hk _=>h.block k hk⟩
theorem Mod.trans{F G:Nat→Prop}{a b c:World}(h:Mod F a b)(k:Mod G b c)(hg:∀i,i<b.heap.size→G i→F i∨a.heap.size≤i):Mod F a c:=
 ⟨k.os.trans h.os,k.tape.trans h.tape,k.output.trans h.output,Nat.le_trans h.size k.size,fun i hi hf=>
  (k.block i (Nat.lt_of_lt_of_le hi h.size) (fun g=>by
   rcases hg i (Nat.lt_of_lt_of_le hi h.size) g with g|g
   ·exact hf g
   ·omega)).trans (h.block i hi hf)⟩
theorem Mod.mono{F G:Nat→Prop}{w w':World}(h:Mod F w w')(hf:∀i,i<w.heap.size→F i→G i):Mod G w w':=⟨h.os,h.tape,h.output,h.size,fun k hk hn=>h.block k hk fun g=>hn (hf k hk g)⟩
theorem Mod.same{F:Nat→Prop}{a b c:World}(h:Mod F a b)(k:Mod F b c):Mod F a c:=h.trans k fun _ _ g=>.inl g
theorem Mod.below{F:Nat→Prop}{a w w':World}{B:Nat}(k:Below B a w)(h:Mod F w w')(hB:B≤w.heap.size)(hf:∀i,i<w.heap.size→F i→B≤i):Below B a w':=
 k.trans ⟨h.os,h.tape,h.output,h.size,fun i hi=>h.block i (by omega) fun g=>by have:=hf i (by omega) g;omega⟩
theorem Mod.toBelow{w w':World}(h:Mod (fun _=>False) w w'):Below w.heap.size w w':=⟨h.os,h.tape,h.output,h.size,fun k hk=>h.block k hk id⟩
theorem Mod.drew{F:Nat→Prop}{a w:World}(h:Mod F a w):Mod F a w.drew:=⟨h.os,h.tape,h.output,h.size,h.block⟩
theorem Mod.alloc{F:Nat→Prop}{a w:World}(h:Mod F a w)(o:Obj):Mod F a (w.alloc o):=
 ⟨h.os,h.tape,h.output,Nat.le_trans h.size (by simp),fun k hk hf=>(Below.heap_alloc _ _ _ (Nat.lt_of_lt_of_le hk h.size)).trans (h.block k hk hf)⟩
theorem Mod.setCell{F:Nat→Prop}{a w:World}(h:Mod F a w)(p:Addr)(hp:F p.block∨a.heap.size≤p.block)(u:Value):Mod F a (w.setCell p u):=
 ⟨h.os,h.tape,h.output,Nat.le_trans h.size (by simp[World.setCell]),fun k hk hf=>(Below.heap_setCell _ _ _ _ (fun e=>by subst e;rcases hp with g|g;exact hf g;omega)).trans (h.block k hk hf)⟩
structure Pg where
 addr:Int
 blk:Nat
 perm:Int
 bytes:List Int
def Pg.cells(p:Pg):Array Value:=(Value.int .u8 p.perm::p.bytes.map (Value.int .u8)).toArray
structure Pg.ok(p:Pg):Prop where
 a0:0≤p.addr
 a1:p.addr<1048576
 a2:p.addr % 256=0
 p0:0≤p.perm
 p1:p.perm≤7
 len:p.bytes.length=256
 bd:∀x,x∈p.bytes→0≤x∧x<256
def ptrElem(v:Value):Option (DataW Unit×List MemPlace):=
 match v with
 | .pointer none=>some (.lit (.int .i64 (-1)),[])
 | .pointer (some ⟨b,0,none⟩)=>some (.lit (.int .i64 b),[])
 |_=>none
theorem ptrElem_inv{v:Value}{z:Int}{ps:List MemPlace}(h:ptrElem v=some (.lit (.int .i64 z),ps)):(v=.pointer none∧z= -1)∨(∃b:Nat,v=.pointer (some ⟨b,0,none⟩)∧z=b):=by
 unfold ptrElem at h
 split at h
 ·simp at h;exact .inl ⟨rfl,h.1.symm⟩
 ·simp at h;exact .inr ⟨_,rfl,h.1.symm⟩
 ·cases h
def atAddr(A:List Pg)(x:Int):Option Pg:=A.find? fun p=>p.addr == x
def pageAt(A:List Pg)(x:Int):Option Pg:=atAddr A (x - x % 256)
def pgPtr:Option Pg→Value
 |some p=>.pointer (some ⟨p.blk,0,none⟩)
 |none=>.pointer none
structure Spc(w:World)(sb mb:Nat)(A:List Pg):Prop where
 head:w.heap[sb]? =some (.cells #[.map (some mb)] 252 (0,0))
 map:∃D n,w.ownsMap Tryz.prog 22 ptrElem mb n D∧(∀x zd,D.atKey (.int .u32 x) zd=match atAddr A x with|some p=>.lit (.int .i64 p.blk)|none=>zd)∧Maps.size D=A.length
 page:∀p,p∈A→w.heap[p.blk]? =some (.cells p.cells 289 (0,0))
 ok:∀p,p∈A→p.ok
 up:A.Pairwise fun p q=>p.addr<q.addr
 blks:A.Pairwise fun p q=>p.blk≠q.blk
def Spc.foot(sb mb:Nat)(A:List Pg)(k:Nat):Prop:=k=sb∨k=mb∨∃p,p∈A∧k=p.blk
theorem lt_of_block{w:World}{k:Nat}{o:Obj}(h:w.heap[k]? =some o):k<w.heap.size:=(Array.getElem?_eq_some_iff.1 h).1
theorem own_of_block{w w':World}{P:Program}{k:TypeId}{R:Value→Option (DataW Unit×List MemPlace)}{b n:Nat}{D:DataW Unit}(h:w.ownsMap P k R b n D)(e:w'.heap[b]? =w.heap[b]?):w'.ownsMap P k R b n D:=by
 obtain⟨es,clock,hb,rest⟩:=h;exact⟨es,clock,e.trans hb,rest⟩
theorem Spc.lt{w:World}{sb mb:Nat}{A:List Pg}(h:Spc w sb mb A){k:Nat}(hk:Spc.foot sb mb A k):k<w.heap.size:=by
 rcases hk with rfl|rfl|⟨p,hp,rfl⟩
 ·exact lt_of_block h.head
 ·obtain⟨D,n,ho,_⟩:=h.map;exact ho.lt
 ·exact lt_of_block (h.page p hp)
theorem Spc.frame{w w':World}{sb mb:Nat}{A:List Pg}(h:Spc w sb mb A)(hf:∀k,Spc.foot sb mb A k→w'.heap[k]? =w.heap[k]?):Spc w' sb mb A:=by
 refine⟨(hf sb (.inl rfl)).trans h.head, ?_,fun p hp=>(hf p.blk (.inr (.inr ⟨p,hp,rfl⟩))).trans (h.page p hp),h.ok,h.up,h.blks⟩;obtain⟨D,n,ho,hv,hs⟩:=h.map;exact⟨D,n,own_of_block ho (hf mb (.inr (.inl rfl))),hv,hs⟩
theorem Spc.keep{w w':World}{sb mb:Nat}{A:List Pg}{F:Nat→Prop}(h:Spc w sb mb A)(hm:Mod F w w')(hf:∀k,Spc.foot sb mb A k→¬F k):Spc w' sb mb A:=
 h.frame fun k hk=>hm.block k (h.lt hk) (hf k hk)
theorem Spc.below{w w':World}{sb mb:Nat}{A:List Pg}{B:Nat}(h:Spc w sb mb A)(hm:Below B w w')(hf:∀k,Spc.foot sb mb A k→k<B):Spc w' sb mb A:=
 h.frame fun k hk=>hm.block k (hf k hk)
theorem atAddr_mem{A:List Pg}{x:Int}{p:Pg}(h:atAddr A x=some p):p∈A∧p.addr=x:=
 ⟨List.mem_of_find?_eq_some h,by have:=List.find?_some h;simpa using this⟩
theorem wf_u32{x:Int}(h0:0≤x)(h1:x≤4294967295):(Lit.int .u32 x).wf=true:=by simp[Lit.wf,IntKind.min,IntKind.max,IntKind.signed,IntKind.bits];omega
theorem zeroPage(w:World):(zeroValue 250).run Tryz.prog w=.ok (.pointer none) w:=by kernel_rfl
theorem Spc.look{w:World}{sb mb:Nat}{A:List Pg}(h:Spc w sb mb A)(x:Int)(h0:0≤x)(h1:x≤4294967295):
  (Instr.lookup 249 (.map (some mb)) (.int .u32 x) false).run Tryz.prog w=.ok (pgPtr (atAddr A x)) w:=by
 obtain⟨D,n,ho,hv,_⟩:=h.map;obtain⟨v,ps,hrun,hR⟩:=ho.lookup (Maps.int_keyed Tryz.underlying22) Tryz.underlying249 (zeroPage w) (z:=.pointer none) (zd:=.lit (.int .i64 (-1))) (zp:=[]) rfl (Maps.keyOf_int_mk Tryz.underlying22 (wf_u32 h0 h1));rw[hrun];rw[hv] at hR;cases hp:atAddr A x with
 |none=>
  rw[hp] at hR;rcases ptrElem_inv hR with⟨rfl,_⟩|⟨b,_,hb⟩
  ·rfl
  ·omega
 |some p=>
  rw[hp] at hR;rcases ptrElem_inv hR with⟨_,hb⟩|⟨b,rfl,hb⟩
  ·omega
  ·have:b=p.blk:=by omega
   subst this;rfl
theorem Spc.cellHead{w:World}{sb mb:Nat}{A:List Pg}(h:Spc w sb mb A):w.cell? ⟨sb,0,none⟩=some (.map (some mb)):=by
 unfold World.cell?;rw[h.head];rfl
theorem Spc.cellPerm{w:World}{sb mb:Nat}{A:List Pg}(h:Spc w sb mb A){p:Pg}(hp:p∈A):w.cell? ⟨p.blk,0,none⟩=some (.int .u8 p.perm):=by
 unfold World.cell?;rw[h.page p hp];rfl
theorem Spc.cellByte{w:World}{sb mb:Nat}{A:List Pg}(h:Spc w sb mb A){p:Pg}(hp:p∈A)(j:Nat)(hj:j<256):w.cell? ⟨p.blk,1+j,none⟩=some (.int .u8 (p.bytes.getD j 0)):=by
 rw[Nat.add_comm];unfold World.cell?;rw[h.page p hp];have hl:=(h.ok p hp).len;simp[Pg.cells,List.getElem?_map,Zg (show j<p.bytes.length by omega)]
def SlV(w:World)(e:TypeId)(s:Nat)(v:Value)(n:Nat)(xs:List Value):Prop:=
 xs.length=n*s∧
 (
  (n=0∧∃a,v=.slice a 0 0)∨
  ∃g off cap cur,v=.slice (some ⟨g,off,none⟩) n cap∧w.heap[g]? =some (.cells cur e (0,0))∧n≤cap∧cap≤maxLen∧off+cap*s≤cur.size∧∀j,j<n*s→cur[off+j]? =xs[j]?)
theorem SlV.nil(w:World)(e:TypeId)(s:Nat):SlV w e s (.slice none 0 0) 0 []:=⟨by simp,.inl ⟨rfl,none,rfl⟩⟩
theorem SlV.of_own{w:World}{base:Nat}{e:TypeId}{s:Nat}{v:Value}{n:Nat}{xs:List Value}(h:w.ownsRow base e s v n xs):SlV w e s v n xs:=by
 obtain⟨hl,h⟩:=h;refine⟨hl, ?_⟩;rcases h with⟨rfl,hn⟩|⟨g,cap,cur,rfl,_,hg,hc,hm,hs,ht⟩
 ·subst hn;exact .inl ⟨rfl,none,rfl⟩
 ·refine .inr ⟨g,0,cap,cur,rfl,hg,hc,hm,by omega,fun j hj=> ?_⟩;rw[Nat.zero_add,←ht,List.getElem?_take_of_lt hj]
  simp
theorem SlV.keep{w w':World}{e:TypeId}{s:Nat}{v:Value}{n:Nat}{xs:List Value}(h:SlV w e s v n xs)(hk:∀g,v.ownBlock=some g→w'.heap[g]? =w.heap[g]?):SlV w' e s v n xs:=by
 obtain⟨hl,h⟩:=h;refine⟨hl, ?_⟩;rcases h with h|⟨g,off,cap,cur,rfl,hg,rest⟩
 ·exact .inl h
 ·exact .inr ⟨g,off,cap,cur,rfl,(hk g rfl).trans hg,rest⟩
theorem SlV.lt{w:World}{e:TypeId}{s:Nat}{v:Value}{n:Nat}{xs:List Value}(h:SlV w e s v n xs)(hn:0<n):∃g,v.ownBlock=some g∧g<w.heap.size:=by
 rcases h.2 with⟨h0,_⟩|⟨g,off,cap,cur,rfl,hg,_⟩
 ·omega
 ·exact⟨g,rfl,(Array.getElem?_eq_some_iff.1 hg).1⟩
theorem SlV.form{w:World}{e:TypeId}{s:Nat}{v:Value}{n:Nat}{xs:List Value}(h:SlV w e s v n xs):∃a cap,v=.slice a n cap:=by
 rcases h.2 with⟨rfl,a,rfl⟩|⟨g,off,cap,cur,rfl,_⟩
 ·exact⟨a,0,rfl⟩
 ·exact⟨_,cap,rfl⟩
theorem SlV.cell{w:World}{e:TypeId}{s:Nat}{g off n cap:Nat}{xs:List Value}(h:SlV w e s (.slice (some ⟨g,off,none⟩) n cap) n xs)(j:Nat)(hj:j<n*s):w.cell? ⟨g,off+j,none⟩=xs[j]? :=by
 rcases h.2 with⟨rfl,_⟩|⟨g',off',cap',cur,hv,hg,_,_,_,hc⟩
 ·omega
 ·simp only[Value.slice.injEq,Option.some.injEq,Addr.mk.injEq,and_true,true_and] at hv;obtain⟨⟨rfl,rfl⟩,rfl⟩:=hv;rw[←hc j hj];unfold World.cell?;rw[hg];rfl
theorem SlV.free{w:World}{e:TypeId}{s:Nat}{g off n cap:Nat}{xs:List Value}(h:SlV w e s (.slice (some ⟨g,off,none⟩) n cap) n xs)(hn:0<n)(j:Nat):w.frozen? ⟨g,j,none⟩=false:=by
 rcases h.2 with⟨rfl,_⟩|⟨g',off',cap',cur,hv,hg,_⟩
 ·omega
 ·simp only[Value.slice.injEq,Option.some.injEq,Addr.mk.injEq,and_true,true_and] at hv;obtain⟨⟨rfl,rfl⟩,rfl⟩:=hv;unfold World.frozen?;rw[hg]
  simp
theorem heap_setCells_same(g:Nat)(e:TypeId):∀(news:List Value) (w:World) (k:Nat) (cur:Array Value),w.heap[g]? =some (.cells cur e (0,0))→k+news.length≤cur.size→
  ∃cur',(w.setCells g k news).heap[g]? =some (.cells cur' e (0,0))∧cur'.size=cur.size∧(∀j,j<k→cur'[j]? =cur[j]?)∧(∀j,j<news.length→cur'[k+j]? =news[j]?)
 | [],w,k,cur,h,_=>⟨cur,by simpa [World.setCells] using h,rfl,fun _ _=>rfl,fun j hj=>by simp at hj⟩
 |u::r,w,k,cur,h,hk=>by
  have h1:=heap_setCell_same w g k cur e u h;obtain⟨cur',c1,c2,c3,c4⟩:=heap_setCells_same g e r (w.setCell ⟨g,k,none⟩ u) (k+1) _ h1 (by simp at hk⊢;omega);refine⟨cur',by simpa [World.setCells] using c1,by rw[c2];simp,fun j hj=> ?_,fun j hj=> ?_⟩
  ·rw[c3 j (by omega),Array.getElem?_setIfInBounds,if_neg (by omega)]
  ·cases j with
   |zero=>
    rw[Nat.add_zero,c3 k (by omega),Array.getElem?_setIfInBounds,if_pos rfl,if_pos (by simp at hk;omega)];rfl
   |succ j=>
    have:=c4 j (by simp at hj;omega);rw[show k+(j+1)=k+1+j by omega,this];rfl
theorem mod_setCells(g:Nat):∀(news:List Value) (w:World) (k:Nat),Mod (fun i=>i=g) w (w.setCells g k news)
 | [],w,k=>by simpa [World.setCells] using Mod.refl _ w
 |u::r,w,k=>by
  have:=((Mod.refl (fun i=>i=g) w).setCell ⟨g,k,none⟩ (.inl rfl) u).same (mod_setCells g r (w.setCell ⟨g,k,none⟩ u) (k+1))
  simpa [World.setCells] using this
theorem SlV.append{P:Program}{w:World}{t e:TypeId}{s bytes:Nat}{v:Value}{n:Nat}{xs:List Value}(h:SlV w e s v n xs)(ty:TypeId)(i:TypeInfo)(z:Value)(ht:P.underlying t=some (.slice e))(hi:P.info? e=some i)(hz:i.zero=some z)
  (hsize:i.size=s) (hby:i.bytes=bytes) (hzs:z.cells.size=s) (hsz:0<s) (a:Addr) (m c:Nat) (news:List Value) (hm:0<m) (hl:news.length=m*s) (hnews:∀j u,news[j]? =some u→w.cell? (a.add j)=some u) (h1:∀u∈news,u.oneCell'=true)
  (h63:n+m≤maxLen) (hbytes:(n+m)*bytes≤140737488355328):
  ∃v' w',(Builtin.append_ #[t,t] ty #[v,.slice (some a) m c]).run P w=.ok v' w'∧SlV w' e s v' (n+m) (xs++news)∧Mod (fun k=>v.ownBlock=some k) w w'∧(v'.ownBlock=v.ownBlock∨∃k,v'.ownBlock=some k∧w.heap.size≤k):=by
 have grown:∀ {v':Value} {w':World} {ys:List Value},w'.ownsRow w.heap.size e s v' (n+m) ys→w.grownBy w' none→Mod (fun k=>v.ownBlock=some k) w w'∧(v'.ownBlock=v.ownBlock∨∃k,v'.ownBlock=some k∧w.heap.size≤k):=by
  intro v' w' ys ho hg;refine⟨⟨hg.os,hg.tape,hg.output,hg.size,fun k hk _=>hg.block k hk (by simp)⟩,.inr ?_⟩;rcases ho.2 with⟨_,h0⟩|⟨g,cap,cur,rfl,hb,_⟩
  ·omega
  ·exact⟨g,rfl,hb⟩
 rcases h.2 with⟨rfl,b,rfl⟩|⟨g,off,cap,cur,rfl,hg,hc,hcm,hcs,hcell⟩
 ·have hx:xs=[]:=List.length_eq_zero_iff.1 (by rw[h.1];simp);subst hx;cases b with
  |none=>
   obtain⟨v',w',hrun,ho,hg,_⟩:=run_append_own (P:=P) w w.heap.size t ty e i z s bytes ht hi hz hsize hby hzs hsz (.slice none 0 0) 0 [] (World.ownsRow_nil _ _ _ _) a m c news hl hnews h1 h63 hbytes (Nat.le_refl _);obtain⟨g1,g2⟩:=grown ho (by simpa [Value.ownBlock] using hg);exact⟨v',w',hrun,SlV.of_own ho,g1,g2⟩
  |some b=>
   obtain⟨v',w',hrun,ho,hg⟩:=run_append_arg_grows (P:=P) w t ty e i z s bytes ht hi hz hsize hby hzs hsz b 0 0 [] (by simp) (fun j u hj=>by simp at hj) a m c news hl hnews (by omega) h63 hbytes;obtain⟨g1,g2⟩:=grown ho hg;exact⟨v',w',hrun,SlV.of_own ho,g1,g2⟩
 ·by_cases hroom:n+m≤cap
  ·have hsp:∀j,j<news.length→off+n*s+j<cur.size:=fun j hj=>by
    have:(n+m)*s≤cap*s:=Nat.mul_le_mul_right _ hroom;rw[Nat.add_mul] at this;omega
   have hrun:=run_append_room_cells (P:=P) w t ty e i ht hi g off n cap a m c news (by rw[hsize];exact hl) hnews h1 hroom (fun j hj=>by
    unfold World.cell?;rw[hg,hsize];simp[Array.getElem?_eq_getElem (hsp j hj)]) (fun j _=>by unfold World.frozen?;rw[hg];simp)
   rw[hsize] at hrun;obtain⟨cur',c1,c2,c3,c4⟩:=heap_setCells_same g e news w (off+n*s) cur hg (by
    have:(n+m)*s≤cap*s:=Nat.mul_le_mul_right _ hroom;rw[Nat.add_mul] at this;omega)
   refine⟨_,_,hrun,⟨by rw[List.length_append,h.1,hl,Nat.add_mul],.inr ⟨g,off,cap,cur',rfl,c1,hroom,hcm,by rw[c2];exact hcs,fun j hj=> ?_⟩⟩,(mod_setCells g news w _).mono fun k _ hk=>by simp[Value.ownBlock,hk],.inl rfl⟩
   by_cases hj2:j<n*s
   ·rw[c3 _ (by omega),hcell j hj2,List.getElem?_append_left (by rw[h.1];exact hj2)]
   ·rw[List.getElem?_append_right (by rw[h.1];omega),h.1];have:=c4 (j - n*s) (by rw[Nat.add_mul] at hj;omega);rw[show off+n*s+(j - n*s)=off+j by omega] at this;exact this
  ·obtain⟨v',w',hrun,ho,hgr⟩:=run_append_arg_grows (P:=P) w t ty e i z s bytes ht hi hz hsize hby hzs hsz ⟨g,off,none⟩ n cap xs h.1 (fun j u hj=>by
    have hjl:j<n*s:=by rw[←h.1];exact(List.getElem?_eq_some_iff.1 hj).1
    have hadd:(⟨g,off,none⟩:Addr).add j=⟨g,off+j,none⟩:=by unfold Addr.add;split<;>simp_all
    rw[hadd,h.cell j hjl,hj]) a m c news hl hnews (by omega) h63 hbytes
   obtain⟨g1,g2⟩:=grown ho hgr;exact⟨v',w',hrun,SlV.of_own ho,g1,g2⟩
theorem wpList_append_slv{P:Program}(w:World){ops:Array Oper}{rest:List Oper}{o:Oper}{ac:Act}{Q:Exit→Act→World→Prop}(hgd:o.guard=none)(sl x:Operand)(t:TypeId)
  (ho:o.op=.call { callee:=.builtin .append,args:= #[sl,x],argTypes:= #[t,t] })
  (e:TypeId) (i:TypeInfo) (z:Value) (s bytes:Nat) (ht:P.underlying t=some (.slice e)) (hi:P.info? e=some i) (hz:i.zero=some z) (hsize:i.size=s) (hby:i.bytes=bytes) (hzs:z.cells.size=s) (hsz:0<s)
  (v:Value) (n:Nat) (xs:List Value) (hs:ac.eval sl=v) (h:SlV w e s v n xs)
  (a:Addr) (m c:Nat) (news:List Value) (hx:ac.eval x=.slice (some a) m c) (hm:0<m) (hl:news.length=m*s) (hnews:∀j u,news[j]? =some u→w.cell? (a.add j)=some u) (h1:∀u∈news,u.oneCell'=true)
  (h63:n+m≤maxLen) (hbytes:(n+m)*bytes≤140737488355328)
  (hK:∀v' w',SlV w' e s v' (n+m) (xs++news)→Mod (fun k=>v.ownBlock=some k) w w'→(v'.ownBlock=v.ownBlock∨∃k,v'.ownBlock=some k∧w.heap.size≤k)→wpList P ops Q rest (ac.put o.dst v') w'):wpList P ops Q (o::rest) ac w:=by
 refine wpList_plain hgd fun K hK'=> ?_
 obtain⟨v',w',hrun,r1,r2,r3⟩:=h.append (P:=P) o.type i z ht hi hz hsize hby hzs hsz a m c news hm hl hnews h1 h63 hbytes;unfold Oper.wp;simp[execOp,ho,resolve,invoke,builtin,hs,hx,hrun,Result.andThen];exact hK' _ _ (hK v' w' r1 r2 r3)
theorem step_append_slv{P:Program}{w:World}{ops:Array Oper}{o:Oper}{ac:Act}{K:Act→World→Prop}{Q:Exit→Act→World→Prop}{E:Prop}(hgd:o.guard=none)(sl x:Operand)(t:TypeId)
  (ho:o.op=.call { callee:=.builtin .append,args:= #[sl,x],argTypes:= #[t,t] })
  (e:TypeId) (i:TypeInfo) (z:Value) (s bytes:Nat) (ht:P.underlying t=some (.slice e)) (hi:P.info? e=some i) (hz:i.zero=some z) (hsize:i.size=s) (hby:i.bytes=bytes) (hzs:z.cells.size=s) (hsz:0<s)
  (v:Value) (n:Nat) (xs:List Value) (hs:ac.eval sl=v) (h:SlV w e s v n xs)
  (a:Addr) (m c:Nat) (news:List Value) (hx:ac.eval x=.slice (some a) m c) (hm:0<m) (hl:news.length=m*s) (hnews:∀j u,news[j]? =some u→w.cell? (a.add j)=some u) (h1:∀u∈news,u.oneCell'=true)
  (h63:n+m≤maxLen) (hbytes:(n+m)*bytes≤140737488355328)
  (hK:∀v' w',SlV w' e s v' (n+m) (xs++news)→Mod (fun k=>v.ownBlock=some k) w w'→(v'.ownBlock=v.ownBlock∨∃k,v'.ownBlock=some k∧w.heap.size≤k)→K (ac.put o.dst v') w'):
  if Region.wanted o (yielded ops ac.tmps)=true then Oper.wp P o ac w K Q else E:=by
 have hw:Region.wanted o (yielded ops ac.tmps)=true:=by simp[Region.wanted,hgd]
 rw[if_pos hw];obtain⟨v',w',hrun,r1,r2,r3⟩:=h.append (P:=P) o.type i z ht hi hz hsize hby hzs hsz a m c news hm hl hnews h1 h63 hbytes;unfold Oper.wp;simp[execOp,ho,resolve,invoke,builtin,hs,hx,hrun,Result.andThen];exact hK v' w' r1 r2 r3
end Go.Proofs.YtjjdjpdmgaipeaaGreat
