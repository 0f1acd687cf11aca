/- Cor, ExeW, Pair, Cpu, WordFns, WordOp, WordGetA in one text. -/
import Derived.Test.YtehihecknhcggaaGreatFtPag
import Derived.Test.YtehihecknhcggaaGreatProg
import Derived.Test.YtehihecknhcggaaGreatFtBase
import Derived.Lib.Hide
import Derived.Laws.EntriesVeiled
import Derived.WalkSpells
import Derived.LoopTactic
import Derived.Test.YtehihecknhcggaaGreatFtZa
set_option linter.unusedVariables false
set_option linter.unusedSimpArgs false
set_option maxRecDepth 100000
set_option maxHeartbeats 16000000
open Go.Proofs.Tryz
namespace Go.Proofs.YtehihecknhcggaaGreat
open Go.RowKit
namespace Cor
theorem find_map(A:List Pg)(x:Int):(atAddr A x).map Pg.core=(cores A).find? fun c=>c.1 == x:=by
 unfold atAddr cores;rw[List.find?_map];rfl
theorem at_eq{A B:List Pg}(h:cores A=cores B)(x:Int):(atAddr A x).map Pg.core=(atAddr B x).map Pg.core:=by rw[find_map,find_map,h]
theorem page_eq{A B:List Pg}(h:cores A=cores B)(x:Int):(pageAt A x).map Pg.core=(pageAt B x).map Pg.core:=at_eq h _
theorem page_cases{A B:List Pg}(h:cores A=cores B)(x:Int):(pageAt A x=none∧pageAt B x=none)∨∃p q,pageAt A x=some p∧pageAt B x=some q∧p.addr=q.addr∧p.perm=q.perm∧p.bytes=q.bytes:=by
 have e:=page_eq h x;cases hA:pageAt A x with
 |none=>cases hB:pageAt B x with
  |none=>exact .inl ⟨rfl,rfl⟩
  |some q=>rw[hA,hB] at e;cases e
 |some p=>cases hB:pageAt B x with
  |none=>rw[hA,hB] at e;cases e
  |some q=>
   rw[hA,hB] at e;simp only[Option.map_some,Option.some.injEq,Pg.core,Prod.mk.injEq] at e;exact .inr ⟨p,q,rfl,rfl,e.1,e.2.1,e.2.2⟩
theorem okAt{A B:List Pg}(h:cores A=cores B)(need x:Int):Sp.okAt A need x=Sp.okAt B need x:=by
 unfold Sp.okAt;rcases page_cases h x with⟨h1,h2⟩|⟨p,q,h1,h2,_,e,_⟩
 ·rw[h1,h2]
 ·rw[h1,h2];simp only[e]
theorem byteAt{A B:List Pg}(h:cores A=cores B)(x:Int):Sp.byteAt A x=Sp.byteAt B x:=by
 unfold Sp.byteAt;rcases page_cases h x with⟨h1,h2⟩|⟨p,q,h1,h2,_,_,e⟩
 ·rw[h1,h2]
 ·rw[h1,h2];simp only[e]
theorem fitsB{A B:List Pg}(h:cores A=cores B)(addr:Int)(n:Nat)(need:Int):Sp.fitsB A addr n need=Sp.fitsB B addr n need:=by
 unfold Sp.fitsB
 congr 1
 funext k
 exact okAt h need _
theorem fitsE{A B:List Pg}(h:cores A=cores B)(addr:Int)(n:Nat)(need:Int):Sp.fitsE A addr n need=Sp.fitsE B addr n need:=by unfold Sp.fitsE;rw[fitsB h]
theorem getL{A B:List Pg}(h:cores A=cores B)(addr:Int)(n:Nat):Sp.getL A addr n=Sp.getL B addr n:=by
 unfold Sp.getL
 congr 1
 funext k
 exact byteAt h _
theorem getE{A B:List Pg}(h:cores A=cores B)(addr n need:Int):Sp.getE A addr n need=Sp.getE B addr n need:=by unfold Sp.getE;rw[fitsE h]
theorem getS{A B:List Pg}(h:cores A=cores B)(addr n need:Int):Sp.getS A addr n need=Sp.getS B addr n need:=by unfold Sp.getS;rw[fitsB h,getL h]
theorem some_eq{A B:List Pg}(h:cores A=cores B)(x:Int):(pageAt A x).isSome=(pageAt B x).isSome:=by
 rcases page_cases h x with⟨h1,h2⟩|⟨p,q,h1,h2,_⟩<;>rw[h1,h2]<;>rfl
theorem mapE{A B:List Pg}(h:cores A=cores B)(addr perm:Int):Sp.mapE A addr perm=Sp.mapE B addr perm:=by unfold Sp.mapE;rw[some_eq h]
theorem permB{A B:List Pg}(h:cores A=cores B)(addr:Int):Sp.permB A addr=Sp.permB B addr:=some_eq h _
theorem permV{A B:List Pg}(h:cores A=cores B)(addr:Int):Sp.permV A addr=Sp.permV B addr:=by
 unfold Sp.permV;rcases page_cases h addr with⟨h1,h2⟩|⟨p,q,h1,h2,_,e,_⟩
 ·rw[h1,h2]
 ·rw[h1,h2];exact e
theorem addrs_eq{A B:List Pg}(h:cores A=cores B):Pag.addrs A=Pag.addrs B:=by
 have:=congrArg (List.map Prod.fst) h;unfold cores at this;rw[List.map_map,List.map_map] at this;exact this
theorem cons_inv{A:List Pg}{q:Pg}{B:List Pg}(h:cores A=cores (q::B)):∃p A',A=p::A'∧p.core=q.core∧cores A'=cores B:=by
 cases A with
 |nil=>cases h
 |cons p A'=>
  have h':p.core::cores A'=q.core::cores B:=h;rw[List.cons.injEq] at h';exact⟨p,A',rfl,h'.1,h'.2⟩
theorem nil_inv{A:List Pg}(h:cores A=cores []):A=[]:=by
 cases A with
 |nil=>rfl
 |cons p A'=>cases h
theorem addr_of{p q:Pg}(h:p.core=q.core):p.addr=q.addr:=congrArg Prod.fst h
theorem ins{p q:Pg}(hpq:p.core=q.core):∀ {A B:List Pg},cores A=cores B→cores (insPg p A)=cores (insPg q B)
 |A,[],h=>by rw[nil_inv h];show [p.core]=[q.core];rw[hpq]
 |A,b::B,h=>by
  obtain⟨a,A',rfl,e,h'⟩:=cons_inv h;have e1:=addr_of e;have e2:=addr_of hpq
  show cores (if p.addr<a.addr then _ else _)=cores (if q.addr<b.addr then _ else _)
  rw[e1,e2]
  split
  ·show p.core::a.core::cores A'=q.core::b.core::cores B
   rw[hpq,e,h']
  ·show a.core::cores (insPg p A')=b.core::cores (insPg q B)
   rw[e,ins hpq h']
theorem set_core(x v:Int){p q:Pg}(h:p.core=q.core):(setPg x v p).core=(setPg x v q).core:=by
 have h1:=addr_of h;have h2:p.perm=q.perm:=congrArg (fun c=>c.2.1) h;have h3:p.bytes=q.bytes:=congrArg (fun c=>c.2.2) h;unfold setPg Pg.core;rw[h1]
 split
 ·first|(simp only[h2,h3];done)|(simp only[h1,h2,h3];done)
 ·first|exact h|(simp only[h2,h3];done)
theorem set(x v:Int):∀ {A B:List Pg},cores A=cores B→cores (setByte A x v)=cores (setByte B x v)
 |A,[],h=>by rw[nil_inv h]
 |A,b::B,h=>by
  obtain⟨a,A',rfl,e,h'⟩:=cons_inv h
  show(setPg x v a).core::cores (setByte A' x v)=(setPg x v b).core::cores (setByte B x v)
  rw[set_core x v e,set x v h']
theorem put(addr:Int)(xs:List Int){A B:List Pg}(h:cores A=cores B):∀k,cores (putN A addr xs k)=cores (putN B addr xs k)
 |0=>h
 |k+1=>set _ _ (put addr xs h k)
theorem putA{A B:List Pg}(h:cores A=cores B)(addr need:Int)(s:ByteArray):cores (Sp.putA A addr need s)=cores (Sp.putA B addr need s):=by
 unfold Sp.putA;rw[fitsB h]
 split
 ·exact put _ _ h _
 ·exact h
theorem mapA{A B:List Pg}(h:cores A=cores B)(addr:Int)(b c:Nat)(perm:Int):cores (Sp.mapA A addr b perm)=cores (Sp.mapA B addr c perm):=by
 unfold Sp.mapA;rw[mapE h]
 split
 ·exact ins (p:=pgNew addr b perm) (q:=pgNew addr c perm) rfl h
 ·exact h
end Cor
open Go.RowKit Word
namespace Cp
structure Regs(r:List Int):Prop where
 len:r.length=16
 bd:∀x,x∈r→0≤x∧x≤4294967295
def rg(r:List Int)(n:Int):Int:=r.getD n.toNat 0
theorem rg_bd{r:List Int}(h:Regs r)(n:Int):0≤rg r n∧rg r n≤4294967295:=by
 unfold rg
 by_cases hn:n.toNat<r.length
 ·rw[List.getD,Zg hn];exact h.bd _ (List.getElem_mem hn)
 ·rw[List.getD,List.getElem?_eq_none (by omega)];exact⟨by simp,by simp⟩
def putG(r:List Int)(n v:Int):List Int:=if n=0 then r else r.set n.toNat v
theorem opv_bd(fn a b:Int)(a0:0≤a)(a1:a≤4294967295)(b0:0≤b)(b1:b≤4294967295):0≤opv fn a b∧opv fn a b≤4294967295:=by
 have bb:∀o,0≤bits o .u32 a b∧bits o .u32 a b≤4294967295:=fun o=>bits_within o .u32 a b
 have oo:∀c,0≤Word.one c∧Word.one c≤4294967295:=fun c=>by unfold Word.one;split<;>exact⟨by omega,by omega⟩
 unfold opv
 split
 ·omega
 ·omega
 ·omega
 ·unfold divu
  split
  ·omega
  ·rename_i h
   exact⟨Int.ediv_nonneg a0 b0,Int.le_trans (Int.ediv_le_self _ a0) a1⟩
 ·unfold remu
  split
  ·omega
  ·rename_i h
   have:=Int.emod_nonneg a h;have:=Int.emod_lt_of_pos a (show 0<b by omega);omega
 ·exact bb _
 ·exact bb _
 ·exact bb _
 ·omega
 ·exact⟨Int.ediv_nonneg a0 (Int.le_of_lt (Int.pow_pos (by omega))),Int.le_trans (Int.ediv_le_self _ a0) a1⟩
 ·omega
 ·exact oo _
 ·exact oo _
 ·exact oo _
 ·omega
structure Out where
 kind:Int
 num:Int
 why:Int
 r:List Int
 pc:Int
 A:List Pg
def Out.stop(o:Out):Value:=.agg #[.int .u8 o.kind,.int .u32 o.num,.int .i64 o.why]
def next(pc:Int):Int:=(pc+8) % 4294967296
def faults(A:List Pg)(r:List Int)(pc why:Int):Out:=⟨2,0,why,r,pc,A⟩
def goes(A:List Pg)(r:List Int)(pc:Int):Out:=⟨0,0,0,r,pc,A⟩
def addr(r:List Int)(x:Ins):Int:=(rg r x.a+x.imm) % 4294967296
def loads(A:List Pg)(r:List Int)(pc:Int)(x:Ins)(n:Nat):Out:=
 if Sp.fitsB A (addr r x) n 1 then goes A (putG r x.d (getV (Sp.getL A (addr r x) n))) (next pc) else faults A r pc 50
def stores(A:List Pg)(r:List Int)(pc:Int)(x:Ins)(n:Nat):Out:=
 if Sp.fitsB A (addr r x) n 2 then goes (putN A (addr r x) ((putL (rg r x.b)).take n) n) r (next pc) else faults A r pc 50
def br(c:Bool)(a b:Int):Int:=if c then a else b
def exe(A:List Pg)(r:List Int)(pc:Int)(x:Ins):Out:=
 if x.op≤14 then goes A (putG r x.d (opv x.op (rg r x.a) (rg r x.b))) (next pc)
 else if x.op≤30 then goes A (putG r x.d (opv (x.op - 16) (rg r x.a) x.imm)) (next pc)
 else if x.op=32 then goes A (putG r x.d x.imm) (next pc)
 else if x.op=33 then loads A r pc x 1
 else if x.op=34 then loads A r pc x 4
 else if x.op=35 then stores A r pc x 1
 else if x.op=36 then stores A r pc x 4
 else if x.op=40 then goes A r x.imm
 else if x.op=41 then goes A (putG r x.d (next pc)) x.imm
 else if x.op=42 then goes A r (rg r x.a)
 else if x.op=43 then goes A r (br (rg r x.a == rg r x.b) x.imm (next pc))
 else if x.op=44 then goes A r (br (rg r x.a != rg r x.b) x.imm (next pc))
 else if x.op=45 then goes A r (br (decide (rg r x.a<rg r x.b)) x.imm (next pc))
 else if x.op=46 then goes A r (br (decide (rg r x.b≤rg r x.a)) x.imm (next pc))
 else⟨1,x.imm,0,r,next pc,A⟩
def stp(A:List Pg)(r:List Int)(pc:Int):Out:=
 if Sp.fitsB A pc 8 4 then
  (if Ins.decB (strOfNums (Sp.getL A pc 8)) then exe A r pc (Ins.decI (strOfNums (Sp.getL A pc 8))) else faults A r pc 7)
 else faults A r pc 50
def run(A:List Pg)(r:List Int)(pc:Int):Nat→Out×Nat
 |0=>(goes A r pc,0)
 |n+1=>
  let o:=stp A r pc
  if o.kind=0 then(let q:=run o.A o.r o.pc n;(q.1,q.2+1)) else if o.kind=2 then(o,0) else(o,1)
end Cp
open Go.RowKit Word
namespace Cp
structure Like(o p:Out):Prop where
 kind:o.kind=p.kind
 num:o.num=p.num
 why:o.why=p.why
 r:o.r=p.r
 pc:o.pc=p.pc
 cores:cores o.A=Go.Proofs.YtehihecknhcggaaGreat.cores p.A
theorem Like.stop{o p:Out}(h:Like o p):o.stop=p.stop:=by unfold Out.stop;rw[h.kind,h.num,h.why]
section
variable {A B:List Pg} (h:cores A=cores B) (r:List Int) (pc:Int)
include h
theorem like_goes:Like (goes A r pc) (goes B r pc):=⟨rfl,rfl,rfl,rfl,rfl,h⟩
theorem like_faults(why:Int):Like (faults A r pc why) (faults B r pc why):=⟨rfl,rfl,rfl,rfl,rfl,h⟩
theorem like_loads(x:Ins)(n:Nat):Like (loads A r pc x n) (loads B r pc x n):=by
 unfold loads;rw[Cor.fitsB h,Cor.getL h]
 split
 ·exact like_goes h _ _
 ·exact like_faults h _ _ _
theorem like_stores(x:Ins)(n:Nat):Like (stores A r pc x n) (stores B r pc x n):=by
 unfold stores;rw[Cor.fitsB h]
 split
 ·exact⟨rfl,rfl,rfl,rfl,rfl,Cor.put _ _ h _⟩
 ·exact like_faults h _ _ _
theorem like_exe(x:Ins):Like (exe A r pc x) (exe B r pc x):=by
 unfold exe
 by_cases c0:x.op≤14
 ·rw[if_pos c0,if_pos c0];exact like_goes h _ _
 rw[if_neg c0,if_neg c0]
 by_cases c1:x.op≤30
 ·rw[if_pos c1,if_pos c1];exact like_goes h _ _
 rw[if_neg c1,if_neg c1]
 by_cases c2:x.op=32
 ·rw[if_pos c2,if_pos c2];exact like_goes h _ _
 rw[if_neg c2,if_neg c2]
 by_cases c3:x.op=33
 ·rw[if_pos c3,if_pos c3];exact like_loads h _ _ _ _
 rw[if_neg c3,if_neg c3]
 by_cases c4:x.op=34
 ·rw[if_pos c4,if_pos c4];exact like_loads h _ _ _ _
 rw[if_neg c4,if_neg c4]
 by_cases c5:x.op=35
 ·rw[if_pos c5,if_pos c5];exact like_stores h _ _ _ _
 rw[if_neg c5,if_neg c5]
 by_cases c6:x.op=36
 ·rw[if_pos c6,if_pos c6];exact like_stores h _ _ _ _
 rw[if_neg c6,if_neg c6]
 by_cases c7:x.op=40
 ·rw[if_pos c7,if_pos c7];exact like_goes h _ _
 rw[if_neg c7,if_neg c7]
 by_cases c8:x.op=41
 ·rw[if_pos c8,if_pos c8];exact like_goes h _ _
 rw[if_neg c8,if_neg c8]
 by_cases c9:x.op=42
 ·rw[if_pos c9,if_pos c9];exact like_goes h _ _
 rw[if_neg c9,if_neg c9]
 by_cases c10:x.op=43
 ·rw[if_pos c10,if_pos c10];exact like_goes h _ _
 rw[if_neg c10,if_neg c10]
 by_cases c11:x.op=44
 ·rw[if_pos c11,if_pos c11];exact like_goes h _ _
 rw[if_neg c11,if_neg c11]
 by_cases c12:x.op=45
 ·rw[if_pos c12,if_pos c12];exact like_goes h _ _
 rw[if_neg c12,if_neg c12]
 by_cases c13:x.op=46
 ·rw[if_pos c13,if_pos c13];exact like_goes h _ _
 rw[if_neg c13,if_neg c13];exact⟨rfl,rfl,rfl,rfl,rfl,h⟩
theorem like_stp:Like (stp A r pc) (stp B r pc):=by
 unfold stp;rw[Cor.fitsB h,Cor.getL h]
 repeat' split
 ·exact like_exe h _ _ _
 ·exact like_faults h _ _ _
 ·exact like_faults h _ _ _
end
theorem next_bd(pc:Int):0≤next pc∧next pc≤4294967295:=by unfold next;omega
theorem byteAt_bd{A:List Pg}(hok:∀p,p∈A→p.ok)(x:Int):0≤Sp.byteAt A x∧Sp.byteAt A x<256:=by
 unfold Sp.byteAt;cases hp:pageAt A x with
 |none=>simp
 |some p=>
  have hm:=(atAddr_mem hp).1;have h:=hok p hm;have:(x % 256).toNat<p.bytes.length:=by rw[h.len];omega
  show 0≤p.bytes.getD (x % 256).toNat 0∧p.bytes.getD (x % 256).toNat 0<256
  rw[List.getD,Zg this];exact h.bd _ (List.getElem_mem this)
theorem getL_bd{A:List Pg}(hok:∀p,p∈A→p.ok)(x:Int)(n:Nat):∀y,y∈Sp.getL A x n→0≤y∧y<256:=by
 intro y hy;unfold Sp.getL at hy;obtain⟨k,_,rfl⟩:=List.mem_map.1 hy;exact byteAt_bd hok _
theorem getV_small{l:List Int}(h:∀x,x∈l→0≤x∧x<256)(hl:l.length≤4):0≤getV l∧getV l≤4294967295:=by
 have:=getV_bd l h;have e:(256:Int) ^ l.length≤4294967296:=by
  have:l.length=0∨l.length=1∨l.length=2∨l.length=3∨l.length=4:=by omega
  rcases this with g|g|g|g|g<;>rw[g]<;>decide
 omega
end Cp
structure SStep(w w':World)(sb mb:Nat)(A A':List Pg):Prop where
 sp:Spc w' sb mb A'
 mod:Mod (Spc.foot sb mb A) w w'
 foot:∀k,Spc.foot sb mb A' k→Spc.foot sb mb A k∨w.heap.size≤k
namespace Sp
section
variable {w:World} {sb mb:Nat} {A:List Pg}
theorem s_map(h:Spc w sb mb A)(addr perm:Int)(h0:0≤addr)(h1:addr≤4294967295)(p0:0≤perm)(p1:perm≤255):
  Calls Tryz.prog 86 #[.pointer (some ⟨sb,0,none⟩),.int .u32 addr,.int .u8 perm] w fun e w'=>∃blk,e=.returned (.int .i64 (mapE A addr perm))∧SStep w w' sb mb A (mapA A addr blk perm):=
 (map_any h addr perm h0 h1 p0 p1).mono fun e w' ⟨g1,g2,g3⟩=>⟨_,g1,⟨g2,g3.mono fun k _ hk=>.inr (.inl hk),fun k hk=>by
  rcases foot_mapA hk with rfl|g
  ·exact .inr (Nat.le_refl _)
  ·exact .inl g⟩⟩
theorem s_set(h:Spc w sb mb A)(addr:Int)(s:ByteArray)(h0:0≤addr)(h1:addr≤4294967295)(hn:s.size≤140737488355328):
  Calls Tryz.prog 87 #[.pointer (some ⟨sb,0,none⟩),.int .u32 addr,.string s] w fun e w'=>e=.returned (.int .i64 (fitsE A addr s.size 0))∧SStep w w' sb mb A (putA A addr 0 s):=
 (set h addr s h0 h1 hn).mono fun e w' ⟨g1,g2,g3⟩=>⟨g1,⟨g2,g3.mono fun k _ hk=>.inr (.inr hk),fun k hk=>.inl (foot_putA.1 hk)⟩⟩
end
end Sp
structure Pair(w:World)(sb mb:Nat)(A:List Pg)(rb:Nat)(lv:Value)(R:List Rp):Prop where
 sp:Spc w sb mb A
 rp:Rsp w rb lv R
 apart:∀k,Spc.foot sb mb A k→¬Rsp.foot rb lv R k
theorem Rsp.keep{w w':World}{rb:Nat}{lv:Value}{R:List Rp}{F:Nat→Prop}(h:Rsp w rb lv R)(hm:Mod F w w')(hf:∀k,Rsp.foot rb lv R k→¬F k):Rsp w' rb lv R:=h.frame fun k hk=>hm.block k (h.lt hk) (hf k hk)
section
variable {w w':World} {sb mb rb:Nat} {A A':List Pg} {lv lv':Value} {R R':List Rp}
theorem Pair.below(h:Pair w sb mb A rb lv R)(hb:Below w.heap.size w w'):Pair w' sb mb A rb lv R:=⟨h.sp.below hb fun _ hk=>h.sp.lt hk,h.rp.same hb,h.apart⟩
theorem Pair.left(h:Pair w sb mb A rb lv R)(s:SStep w w' sb mb A A'):Pair w' sb mb A' rb lv R:=
 ⟨s.sp,h.rp.keep s.mod fun k hk g=>h.apart k g hk,fun k hk g=>by
  rcases s.foot k hk with q|q
  ·exact h.apart k q g
  ·have:=h.rp.lt g;omega⟩
theorem Pair.right(h:Pair w sb mb A rb lv R)(s:RStep w w' rb lv R lv' R'):Pair w' sb mb A rb lv' R':=
 ⟨h.sp.keep s.mod fun k hk g=>h.apart k hk g,s.sp,fun k hk g=>by
  rcases s.foot k g with q|q
  ·exact h.apart k hk q
  ·have:=h.sp.lt hk;omega⟩
end
open Go.RowKit Word
namespace Cp
def cells(r:List Int)(pc:Int):Array Value:=(r.map (Value.int .u32)++[Value.int .u32 pc]).toArray
end Cp
structure Cpu(t:TypeId)(w:World)(cb:Nat)(r:List Int)(pc:Int):Prop where
 blk:w.heap[cb]? =some (.cells (Cp.cells r pc) t (0,0))
 regs:Cp.Regs r
 p0:0≤pc
 p1:pc≤4294967295
namespace Cpu
variable {t:TypeId} {w w':World} {cb:Nat} {r:List Int} {pc:Int}
theorem lt(h:Cpu t w cb r pc):cb<w.heap.size:=lQ h.blk
theorem frame(h:Cpu t w cb r pc)(e:w'.heap[cb]? =w.heap[cb]?):Cpu t w' cb r pc:=⟨e.trans h.blk,h.regs,h.p0,h.p1⟩
theorem below(h:Cpu t w cb r pc)(hb:Below w.heap.size w w'):Cpu t w' cb r pc:=h.frame (hb.block _ h.lt)
theorem keep{F:Nat→Prop}(h:Cpu t w cb r pc)(hm:Mod F w w')(hf:¬F cb):Cpu t w' cb r pc:=h.frame (hm.block _ h.lt hf)
theorem cellReg(h:Cpu t w cb r pc)(n:Nat)(hn:n<16):w.cell? ⟨cb,n,none⟩=some (.int .u32 (Cp.rg r n)):=by
 unfold World.cell?;rw[h.blk];have hl:=h.regs.len;have:n<r.length:=by omega
 simp[Cp.cells,Cp.rg,List.getElem?_append,this]
theorem cellPc(h:Cpu t w cb r pc):w.cell? ⟨cb,16,none⟩=some (.int .u32 pc):=by
 unfold World.cell?;rw[h.blk];have hl:=h.regs.len;simp[Cp.cells,hl]
theorem thaw(h:Cpu t w cb r pc)(n:Nat):w.frozen? ⟨cb,n,none⟩=false:=by
 unfold World.frozen?;rw[h.blk];rfl
theorem setReg(h:Cpu t w cb r pc)(n:Nat)(hn:n<16)(v:Int)(v0:0≤v)(v1:v≤4294967295):Cpu t (w.setCell ⟨cb,n,none⟩ (.int .u32 v)) cb (r.set n v) pc:=by
 refine⟨?_,⟨by rw[List.length_set,h.regs.len],fun x hx=> ?_⟩,h.p0,h.p1⟩
 ·rw[setCell_eq_setRow _ _ _ _ _ _ _ h.blk];have:=setRow_heap w cb _ ((Cp.cells r pc).setIfInBounds n (.int .u32 v)) _ _ h.blk;rw[this];have hl:=h.regs.len;have hn2:n<r.length:=by omega
  congr 2
  unfold Cp.cells
  apply Array.ext'
  simp only[Array.toList_setIfInBounds];rw[List.set_append_left _ _ (by simpa using hn2),List.map_set]
 ·rcases List.mem_or_eq_of_mem_set hx with g|rfl
  ·exact h.regs.bd x g
  ·exact⟨v0,v1⟩
theorem setPc(h:Cpu t w cb r pc)(v:Int)(v0:0≤v)(v1:v≤4294967295):Cpu t (w.setCell ⟨cb,16,none⟩ (.int .u32 v)) cb r v:=by
 refine⟨?_,h.regs,v0,v1⟩;rw[setCell_eq_setRow _ _ _ _ _ _ _ h.blk];have:=setRow_heap w cb _ ((Cp.cells r pc).setIfInBounds 16 (.int .u32 v)) _ _ h.blk;rw[this];have hl:=h.regs.len
 congr 2
 unfold Cp.cells
 apply Array.ext'
 simp only[Array.toList_setIfInBounds];rw[List.set_append_right _ _ (by simp[hl])];simp[hl]
end Cpu
namespace Cp
theorem putG_nat(r:List Int)(n:Nat)(v:Int)(h:¬n=0):putG r n v=r.set n v:=by
 unfold putG;rw[if_neg (by omega),Int.toNat_natCast]
def PutPost(t:TypeId)(w:World)(cb:Nat)(r:List Int)(pc n v:Int)(e:Ending)(w':World):Prop:=e=.returned (.tuple #[])∧Cpu t w' cb (putG r n v) pc∧Mod (fun k=>k=cb) w w'
theorem put{w:World}{cb:Nat}{r:List Int}{pc:Int}(h:Cpu 326 w cb r pc)(n:Nat)(hn:n<16)(v:Int)(v0:0≤v)(v1:v≤4294967295):
  Calls Tryz.prog 201 #[.pointer (some ⟨cb,0,none⟩),.int .u8 n,.int .u32 v] w (PutPost 326 w cb r pc n v):=by
 by_cases h0:n=0
 ·subst h0;have H:=Lh h;clear h;go_enter func201,ntmps201;go_wp2;go_end0;exact⟨rfl,H.out,Mod.refl _ _⟩
 ·have g0:(0:Int)<n:=by omega
  have g1:(n:Int)<16:=by omega
  have hc:=h.cellReg n hn;have hf:=h.thaw n;have HS:=Lh (h.setReg n hn v v0 v1);rw[←putG_nat r n v h0] at HS;clear h;go_enter func201,ntmps201;go_wp2;go_end0;exact⟨rfl,HS.out,Mod.setCell (F:=fun k=>k=cb) (Mod.refl _ _) _ (.inl rfl) _⟩
end Cp
end Go.Proofs.YtehihecknhcggaaGreat
namespace Go.Proofs.YtehihecknhcggaaGreat.Word
open Go.RowKit
theorem bit(c:Bool)(w:World):Calls Tryz.prog 415 #[.bool c] w fun e w'=>e=.returned (.int .u32 (one c))∧w=w':=by
 cases c
 all_goals
  go_enter func415,ntmps415;go_wp2;go_ret;exact⟨rfl,rfl⟩
theorem add(a b:Int)(h0:0≤a)(h1:a≤4294967295)(h2:0≤b)(h3:b≤4294967295)(w:World):Calls Tryz.prog 394 #[.int .u32 a,.int .u32 b] w fun e w'=>e=.returned (.int .u32 ((a+b) % 4294967296))∧w=w':=by
 go_enter func394,ntmps394;go_wp2;go_ret;exact⟨rfl,rfl⟩
theorem sub(a b:Int)(h0:0≤a)(h1:a≤4294967295)(h2:0≤b)(h3:b≤4294967295)(w:World):Calls Tryz.prog 395 #[.int .u32 a,.int .u32 b] w fun e w'=>e=.returned (.int .u32 ((a - b) % 4294967296))∧w=w':=by
 go_enter func395,ntmps395;go_wp2;go_ret;exact⟨rfl,rfl⟩
theorem mul(a b:Int)(h0:0≤a)(h1:a≤4294967295)(h2:0≤b)(h3:b≤4294967295)(w:World):Calls Tryz.prog 396 #[.int .u32 a,.int .u32 b] w fun e w'=>e=.returned (.int .u32 (a*b % 4294967296))∧w=w':=by
 go_enter func396,ntmps396;go_wp2;go_ret;exact⟨rfl,rfl⟩
theorem div(a b:Int)(h0:0≤a)(h1:a≤4294967295)(h2:0≤b)(h3:b≤4294967295)(w:World):Calls Tryz.prog 397 #[.int .u32 a,.int .u32 b] w fun e w'=>e=.returned (.int .u32 (divu a b))∧w=w':=by
 by_cases hb:b=0
 ·subst hb;go_enter func397,ntmps397;go_wp2;go_ret;exact⟨rfl,rfl⟩
 ·have hv:=Lh (divu_ne a b hb);go_enter func397,ntmps397;go_wp2;go_ret;rw[hv.out];exact⟨rfl,rfl⟩
theorem rem(a b:Int)(h0:0≤a)(h1:a≤4294967295)(h2:0≤b)(h3:b≤4294967295)(w:World):Calls Tryz.prog 398 #[.int .u32 a,.int .u32 b] w fun e w'=>e=.returned (.int .u32 (remu a b))∧w=w':=by
 by_cases hb:b=0
 ·subst hb;go_enter func398,ntmps398;go_wp2;go_ret;exact⟨rfl,rfl⟩
 ·have hv:=Lh (remu_ne a b hb);go_enter func398,ntmps398;go_wp2;go_ret;rw[hv.out];exact⟨rfl,rfl⟩
theorem and(a b:Int)(h0:0≤a)(h1:a≤4294967295)(h2:0≤b)(h3:b≤4294967295)(w:World):Calls Tryz.prog 399 #[.int .u32 a,.int .u32 b] w fun e w'=>e=.returned (.int .u32 (bits .and .u32 a b))∧w=w':=by
 go_enter func399,ntmps399;go_wp2;go_ret;exact⟨rfl,rfl⟩
theorem or(a b:Int)(h0:0≤a)(h1:a≤4294967295)(h2:0≤b)(h3:b≤4294967295)(w:World):Calls Tryz.prog 400 #[.int .u32 a,.int .u32 b] w fun e w'=>e=.returned (.int .u32 (bits .or .u32 a b))∧w=w':=by
 go_enter func400,ntmps400;go_wp2;go_ret;exact⟨rfl,rfl⟩
theorem xor(a b:Int)(h0:0≤a)(h1:a≤4294967295)(h2:0≤b)(h3:b≤4294967295)(w:World):Calls Tryz.prog 401 #[.int .u32 a,.int .u32 b] w fun e w'=>e=.returned (.int .u32 (bits .xor .u32 a b))∧w=w':=by
 go_enter func401,ntmps401;go_wp2;go_ret;exact⟨rfl,rfl⟩
theorem shl(a b:Int)(h0:0≤a)(h1:a≤4294967295)(h2:0≤b)(h3:b≤4294967295)(w:World):Calls Tryz.prog 402 #[.int .u32 a,.int .u32 b] w fun e w'=>e=.returned (.int .u32 (a*2 ^ (b % 32).toNat % 4294967296))∧w=w':=by
 go_enter func402,ntmps402;go_wp2;go_ret;exact⟨rfl,rfl⟩
theorem shr(a b:Int)(h0:0≤a)(h1:a≤4294967295)(h2:0≤b)(h3:b≤4294967295)(w:World):Calls Tryz.prog 403 #[.int .u32 a,.int .u32 b] w fun e w'=>e=.returned (.int .u32 (a / 2 ^ (b % 32).toNat))∧w=w':=by
 go_enter func403,ntmps403;go_wp2;go_ret;exact⟨rfl,rfl⟩
theorem sar(a b:Int)(h0:0≤a)(h1:a≤4294967295)(h2:0≤b)(h3:b≤4294967295)(w:World):Calls Tryz.prog 404 #[.int .u32 a,.int .u32 b] w fun e w'=>e=.returned (.int .u32 (wrap32 a / 2 ^ (b % 32).toNat % 4294967296))∧w=w':=by
 go_enter func404,ntmps404;go_wp2;go_ret;exact⟨rfl,rfl⟩
theorem slt(a b:Int)(h0:0≤a)(h1:a≤4294967295)(h2:0≤b)(h3:b≤4294967295)(w:World):Calls Tryz.prog 405 #[.int .u32 a,.int .u32 b] w fun e w'=>e=.returned (.int .u32 (one (decide (wrap32 a<wrap32 b))))∧w=w':=by
 go_enter func405,ntmps405;go_wp2_with (go_at_call 415;refine(bit _ _).mono ?_;rintro e w' ⟨rfl,rfl⟩);go_ret;exact⟨rfl,rfl⟩
theorem sltu(a b:Int)(h0:0≤a)(h1:a≤4294967295)(h2:0≤b)(h3:b≤4294967295)(w:World):Calls Tryz.prog 406 #[.int .u32 a,.int .u32 b] w fun e w'=>e=.returned (.int .u32 (one (decide (a<b))))∧w=w':=by
 go_enter func406,ntmps406;go_wp2_with (go_at_call 415;refine(bit _ _).mono ?_;rintro e w' ⟨rfl,rfl⟩);go_ret;exact⟨rfl,rfl⟩
theorem seq(a b:Int)(h0:0≤a)(h1:a≤4294967295)(h2:0≤b)(h3:b≤4294967295)(w:World):Calls Tryz.prog 407 #[.int .u32 a,.int .u32 b] w fun e w'=>e=.returned (.int .u32 (one (a == b)))∧w=w':=by
 go_enter func407,ntmps407;go_wp2_with (go_at_call 415;refine(bit _ _).mono ?_;rintro e w' ⟨rfl,rfl⟩);go_ret;exact⟨rfl,rfl⟩
end Go.Proofs.YtehihecknhcggaaGreat.Word
namespace Go.Proofs.YtehihecknhcggaaGreat.Word
open Go.RowKit
theorem nilq(f:Nat)(w:World):(binOp .eql 493 (.func (.func f) #[] #[]) .nilFunc).run Tryz.prog w=.ok (.bool false) w:=by kernel_rfl
theorem nilq0(w:World):(binOp .eql 493 .nilFunc .nilFunc).run Tryz.prog w=.ok (.bool true) w:=by kernel_rfl
theorem op15(fn a b:Int)(hf:15≤fn)(hf2:fn≤255)(h0:0≤a)(h1:a≤4294967295)(h2:0≤b)(h3:b≤4294967295)(w:World):Calls Tryz.prog 369 #[.int .u8 fn,.int .u32 a,.int .u32 b] w fun e w'=>e=.returned (.tuple #[.int .u32 0,.int .i64 2])∧Below w.heap.size w w':=by
 go_enter func369,ntmps369;go_wp2;go_ret2;exact⟨rfl,by repeat (first|exact Below.refl _ _|apply Below.drew|refine Below.setCell ?_ (by simp) _|refine Below.alloc ?_ (by simp) _)⟩
theorem op0(a b:Int)(h0:0≤a)(h1:a≤4294967295)(h2:0≤b)(h3:b≤4294967295)(w:World):Calls Tryz.prog 369 #[.int .u8 0,.int .u32 a,.int .u32 b] w fun e w'=>e=.returned (.tuple #[.int .u32 0,.int .i64 2])∧Below w.heap.size w w':=by
 have hq:=nilq0;go_enter func369,ntmps369;go_wp2;go_ret2;exact⟨rfl,by repeat (first|exact Below.refl _ _|apply Below.drew|refine Below.setCell ?_ (by simp) _|refine Below.alloc ?_ (by simp) _)⟩
theorem op1(a b:Int)(h0:0≤a)(h1:a≤4294967295)(h2:0≤b)(h3:b≤4294967295)(w:World):Calls Tryz.prog 369 #[.int .u8 1,.int .u32 a,.int .u32 b] w fun e w'=>e=.returned (.tuple #[.int .u32 ((a+b) % 4294967296),.int .i64 0])∧Below w.heap.size w w':=by
 have hq:=nilq;go_enter func369,ntmps369;go_wp2_with (go_at_call 394;refine(add _ _ h0 h1 h2 h3 _).mono ?_;rintro e w' ⟨rfl,rfl⟩);go_ret2;exact⟨rfl,by repeat (first|exact Below.refl _ _|apply Below.drew|refine Below.setCell ?_ (by simp) _|refine Below.alloc ?_ (by simp) _)⟩
theorem op2(a b:Int)(h0:0≤a)(h1:a≤4294967295)(h2:0≤b)(h3:b≤4294967295)(w:World):Calls Tryz.prog 369 #[.int .u8 2,.int .u32 a,.int .u32 b] w fun e w'=>e=.returned (.tuple #[.int .u32 ((a - b) % 4294967296),.int .i64 0])∧Below w.heap.size w w':=by
 have hq:=nilq;go_enter func369,ntmps369;go_wp2_with (go_at_call 395;refine(sub _ _ h0 h1 h2 h3 _).mono ?_;rintro e w' ⟨rfl,rfl⟩);go_ret2;exact⟨rfl,by repeat (first|exact Below.refl _ _|apply Below.drew|refine Below.setCell ?_ (by simp) _|refine Below.alloc ?_ (by simp) _)⟩
theorem op3(a b:Int)(h0:0≤a)(h1:a≤4294967295)(h2:0≤b)(h3:b≤4294967295)(w:World):Calls Tryz.prog 369 #[.int .u8 3,.int .u32 a,.int .u32 b] w fun e w'=>e=.returned (.tuple #[.int .u32 (a*b % 4294967296),.int .i64 0])∧Below w.heap.size w w':=by
 have hq:=nilq;go_enter func369,ntmps369;go_wp2_with (go_at_call 396;refine(mul _ _ h0 h1 h2 h3 _).mono ?_;rintro e w' ⟨rfl,rfl⟩);go_ret2;exact⟨rfl,by repeat (first|exact Below.refl _ _|apply Below.drew|refine Below.setCell ?_ (by simp) _|refine Below.alloc ?_ (by simp) _)⟩
theorem op4(a b:Int)(h0:0≤a)(h1:a≤4294967295)(h2:0≤b)(h3:b≤4294967295)(w:World):Calls Tryz.prog 369 #[.int .u8 4,.int .u32 a,.int .u32 b] w fun e w'=>e=.returned (.tuple #[.int .u32 (divu a b),.int .i64 0])∧Below w.heap.size w w':=by
 have hq:=nilq;go_enter func369,ntmps369;go_wp2_with (go_at_call 397;refine(div _ _ h0 h1 h2 h3 _).mono ?_;rintro e w' ⟨rfl,rfl⟩);go_ret2;exact⟨rfl,by repeat (first|exact Below.refl _ _|apply Below.drew|refine Below.setCell ?_ (by simp) _|refine Below.alloc ?_ (by simp) _)⟩
theorem op5(a b:Int)(h0:0≤a)(h1:a≤4294967295)(h2:0≤b)(h3:b≤4294967295)(w:World):Calls Tryz.prog 369 #[.int .u8 5,.int .u32 a,.int .u32 b] w fun e w'=>e=.returned (.tuple #[.int .u32 (remu a b),.int .i64 0])∧Below w.heap.size w w':=by
 have hq:=nilq;go_enter func369,ntmps369;go_wp2_with (go_at_call 398;refine(rem _ _ h0 h1 h2 h3 _).mono ?_;rintro e w' ⟨rfl,rfl⟩);go_ret2;exact⟨rfl,by repeat (first|exact Below.refl _ _|apply Below.drew|refine Below.setCell ?_ (by simp) _|refine Below.alloc ?_ (by simp) _)⟩
theorem op6(a b:Int)(h0:0≤a)(h1:a≤4294967295)(h2:0≤b)(h3:b≤4294967295)(w:World):Calls Tryz.prog 369 #[.int .u8 6,.int .u32 a,.int .u32 b] w fun e w'=>e=.returned (.tuple #[.int .u32 (bits .and .u32 a b),.int .i64 0])∧Below w.heap.size w w':=by
 have hq:=nilq;go_enter func369,ntmps369;go_wp2_with (go_at_call 399;refine(and _ _ h0 h1 h2 h3 _).mono ?_;rintro e w' ⟨rfl,rfl⟩);go_ret2;exact⟨rfl,by repeat (first|exact Below.refl _ _|apply Below.drew|refine Below.setCell ?_ (by simp) _|refine Below.alloc ?_ (by simp) _)⟩
theorem op7(a b:Int)(h0:0≤a)(h1:a≤4294967295)(h2:0≤b)(h3:b≤4294967295)(w:World):Calls Tryz.prog 369 #[.int .u8 7,.int .u32 a,.int .u32 b] w fun e w'=>e=.returned (.tuple #[.int .u32 (bits .or .u32 a b),.int .i64 0])∧Below w.heap.size w w':=by
 have hq:=nilq;go_enter func369,ntmps369;go_wp2_with (go_at_call 400;refine(or _ _ h0 h1 h2 h3 _).mono ?_;rintro e w' ⟨rfl,rfl⟩);go_ret2;exact⟨rfl,by repeat (first|exact Below.refl _ _|apply Below.drew|refine Below.setCell ?_ (by simp) _|refine Below.alloc ?_ (by simp) _)⟩
theorem op8(a b:Int)(h0:0≤a)(h1:a≤4294967295)(h2:0≤b)(h3:b≤4294967295)(w:World):Calls Tryz.prog 369 #[.int .u8 8,.int .u32 a,.int .u32 b] w fun e w'=>e=.returned (.tuple #[.int .u32 (bits .xor .u32 a b),.int .i64 0])∧Below w.heap.size w w':=by
 have hq:=nilq;go_enter func369,ntmps369;go_wp2_with (go_at_call 401;refine(xor _ _ h0 h1 h2 h3 _).mono ?_;rintro e w' ⟨rfl,rfl⟩);go_ret2;exact⟨rfl,by repeat (first|exact Below.refl _ _|apply Below.drew|refine Below.setCell ?_ (by simp) _|refine Below.alloc ?_ (by simp) _)⟩
theorem op9(a b:Int)(h0:0≤a)(h1:a≤4294967295)(h2:0≤b)(h3:b≤4294967295)(w:World):Calls Tryz.prog 369 #[.int .u8 9,.int .u32 a,.int .u32 b] w fun e w'=>e=.returned (.tuple #[.int .u32 (a*2 ^ (b % 32).toNat % 4294967296),.int .i64 0])∧Below w.heap.size w w':=by
 have hq:=nilq;go_enter func369,ntmps369;go_wp2_with (go_at_call 402;refine(shl _ _ h0 h1 h2 h3 _).mono ?_;rintro e w' ⟨rfl,rfl⟩);go_ret2;exact⟨rfl,by repeat (first|exact Below.refl _ _|apply Below.drew|refine Below.setCell ?_ (by simp) _|refine Below.alloc ?_ (by simp) _)⟩
theorem op10(a b:Int)(h0:0≤a)(h1:a≤4294967295)(h2:0≤b)(h3:b≤4294967295)(w:World):Calls Tryz.prog 369 #[.int .u8 10,.int .u32 a,.int .u32 b] w fun e w'=>e=.returned (.tuple #[.int .u32 (a / 2 ^ (b % 32).toNat),.int .i64 0])∧Below w.heap.size w w':=by
 have hq:=nilq;go_enter func369,ntmps369;go_wp2_with (go_at_call 403;refine(shr _ _ h0 h1 h2 h3 _).mono ?_;rintro e w' ⟨rfl,rfl⟩);go_ret2;exact⟨rfl,by repeat (first|exact Below.refl _ _|apply Below.drew|refine Below.setCell ?_ (by simp) _|refine Below.alloc ?_ (by simp) _)⟩
theorem op11(a b:Int)(h0:0≤a)(h1:a≤4294967295)(h2:0≤b)(h3:b≤4294967295)(w:World):Calls Tryz.prog 369 #[.int .u8 11,.int .u32 a,.int .u32 b] w fun e w'=>e=.returned (.tuple #[.int .u32 (wrap32 a / 2 ^ (b % 32).toNat % 4294967296),.int .i64 0])∧Below w.heap.size w w':=by
 have hq:=nilq;go_enter func369,ntmps369;go_wp2_with (go_at_call 404;refine(sar _ _ h0 h1 h2 h3 _).mono ?_;rintro e w' ⟨rfl,rfl⟩);go_ret2;exact⟨rfl,by repeat (first|exact Below.refl _ _|apply Below.drew|refine Below.setCell ?_ (by simp) _|refine Below.alloc ?_ (by simp) _)⟩
theorem op12(a b:Int)(h0:0≤a)(h1:a≤4294967295)(h2:0≤b)(h3:b≤4294967295)(w:World):Calls Tryz.prog 369 #[.int .u8 12,.int .u32 a,.int .u32 b] w fun e w'=>e=.returned (.tuple #[.int .u32 (one (decide (wrap32 a<wrap32 b))),.int .i64 0])∧Below w.heap.size w w':=by
 have hq:=nilq;go_enter func369,ntmps369;go_wp2_with (go_at_call 405;refine(slt _ _ h0 h1 h2 h3 _).mono ?_;rintro e w' ⟨rfl,rfl⟩);go_ret2;exact⟨rfl,by repeat (first|exact Below.refl _ _|apply Below.drew|refine Below.setCell ?_ (by simp) _|refine Below.alloc ?_ (by simp) _)⟩
theorem op13(a b:Int)(h0:0≤a)(h1:a≤4294967295)(h2:0≤b)(h3:b≤4294967295)(w:World):Calls Tryz.prog 369 #[.int .u8 13,.int .u32 a,.int .u32 b] w fun e w'=>e=.returned (.tuple #[.int .u32 (one (decide (a<b))),.int .i64 0])∧Below w.heap.size w w':=by
 have hq:=nilq;go_enter func369,ntmps369;go_wp2_with (go_at_call 406;refine(sltu _ _ h0 h1 h2 h3 _).mono ?_;rintro e w' ⟨rfl,rfl⟩);go_ret2;exact⟨rfl,by repeat (first|exact Below.refl _ _|apply Below.drew|refine Below.setCell ?_ (by simp) _|refine Below.alloc ?_ (by simp) _)⟩
theorem op14(a b:Int)(h0:0≤a)(h1:a≤4294967295)(h2:0≤b)(h3:b≤4294967295)(w:World):Calls Tryz.prog 369 #[.int .u8 14,.int .u32 a,.int .u32 b] w fun e w'=>e=.returned (.tuple #[.int .u32 (one (a == b)),.int .i64 0])∧Below w.heap.size w w':=by
 have hq:=nilq;go_enter func369,ntmps369;go_wp2_with (go_at_call 407;refine(seq _ _ h0 h1 h2 h3 _).mono ?_;rintro e w' ⟨rfl,rfl⟩);go_ret2;exact⟨rfl,by repeat (first|exact Below.refl _ _|apply Below.drew|refine Below.setCell ?_ (by simp) _|refine Below.alloc ?_ (by simp) _)⟩
theorem Op(fn a b:Int)(f0:0≤fn)(f1:fn≤255)(h0:0≤a)(h1:a≤4294967295)(h2:0≤b)(h3:b≤4294967295)(w:World):Calls Tryz.prog 369 #[.int .u8 fn,.int .u32 a,.int .u32 b] w fun e w'=>e=.returned (.tuple #[.int .u32 (opv fn a b),.int .i64 (ope fn)])∧Below w.heap.size w w':=by
 by_cases hf:15≤fn
 ·have e1:opv fn a b=0:=opv_high fn a b hf;have e2:ope fn=2:=ope_high fn hf;rw[e1,e2];exact op15 fn a b hf f1 h0 h1 h2 h3 w
 ·have:fn=0∨fn=1∨fn=2∨fn=3∨fn=4∨fn=5∨fn=6∨fn=7∨fn=8∨fn=9∨fn=10∨fn=11∨fn=12∨fn=13∨fn=14:=by omega
  rcases this with rfl|rfl|rfl|rfl|rfl|rfl|rfl|rfl|rfl|rfl|rfl|rfl|rfl|rfl|rfl
  ·exact op0 a b h0 h1 h2 h3 w
  ·exact op1 a b h0 h1 h2 h3 w
  ·exact op2 a b h0 h1 h2 h3 w
  ·exact op3 a b h0 h1 h2 h3 w
  ·exact op4 a b h0 h1 h2 h3 w
  ·exact op5 a b h0 h1 h2 h3 w
  ·exact op6 a b h0 h1 h2 h3 w
  ·exact op7 a b h0 h1 h2 h3 w
  ·exact op8 a b h0 h1 h2 h3 w
  ·exact op9 a b h0 h1 h2 h3 w
  ·exact op10 a b h0 h1 h2 h3 w
  ·exact op11 a b h0 h1 h2 h3 w
  ·exact op12 a b h0 h1 h2 h3 w
  ·exact op13 a b h0 h1 h2 h3 w
  ·exact op14 a b h0 h1 h2 h3 w
end Go.Proofs.YtehihecknhcggaaGreat.Word
namespace Go.Proofs.YtehihecknhcggaaGreat.Word
open Go.RowKit
def getRel(s:ByteArray)(v i:Value):Prop:=∃(k:Nat) (x:Int),k≤s.size∧i=.int .i64 k∧v=.int .u32 x∧0≤x∧x≤4294967295∧x=getV ((nums s).take k)
theorem get_ok(s:ByteArray)(h1:1≤s.size)(h4:s.size≤4)(w:World):
  Calls Tryz.prog 304 #[.string s] w fun e w'=>e=.returned (.tuple #[.int .u32 (getV (nums s)),.int .i64 0])∧w=w':=by
 go_enter func304,ntmps304;go_wp2;go_loop [2,15,4] (fun v i k=>getRel s v i) (fun _ i _=>s.size - (intOf i).toNat)
 case atStart=>exact⟨0,0,by omega,rfl,rfl,by omega,by omega,rfl⟩
 case round=>
  obtain⟨k,x,hk,rfl,rfl,x0,x1,hx⟩:=hrel
  by_cases hk2:k<s.size
  ·have Hn:=Lh (get_next s k x hk2 h4 hx);have Hb:=Lh (getV_take_bd s (k+1) h4);clear hx;go_wp2;refine⟨⟨k+1,_,by omega,by go_num,rfl, ?_, ?_,Hn.out⟩,by simp[intOf];omega⟩
   ·rw[Hn.out];exact Hb.out.1
   ·rw[Hn.out];exact Hb.out.2
  ·obtain rfl:k=s.size:=by omega
   have Hx:=Lh hx;clear hx;go_wp2;go_ret2;refine⟨ret_ie ?_,rfl⟩;rw[Hx.out,List.take_of_length_le (by rw[nums_length];omega)]
end Go.Proofs.YtehihecknhcggaaGreat.Word
