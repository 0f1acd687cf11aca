/- Cor, ExeW, Pair, Cpu, WordGetA, CpuW, Same05, KeepsP, Env, EnvW, EnvN, Reg, RegT in one text. -/
import Derived.Test.YtjjdjpdmgaipeaaGreatCpPag
import Derived.WalkSpells
import Derived.LoopTactic
import Derived.Test.YtjjdjpdmgaipeaaGreatProg
import Derived.Test.YtjjdjpdmgaipeaaGreatCpBase
import Derived.Lib.Hide
import Derived.Laws.EntriesVeiled
import Derived.Deep.RegionHeld3
import Derived.Deep.QuietTactic
import Derived.BigQuiet
import Derived.Maps.Own
import Derived.Laws.Tables
import Derived.Laws.CopyOwn
import Derived.Deep.MidRow
import Derived.Deep.DeepCutAuto
import Derived.Deep.RegionWith
import Derived.Test.YtjjdjpdmgaipeaaGreatCpZa
set_option linter.unusedVariables false
set_option linter.unusedSimpArgs false
set_option maxRecDepth 100000
set_option maxHeartbeats 16000000
open Go.Proofs.Tryz
namespace Go.Proofs.YtjjdjpdmgaipeaaGreat
open Go.RowKit
namespace Cor
theorem find_map(A:List Pg)(x:Int):(atAddr A x).map Pg.core=(cores A).find? fun c=>c.1 == x:=by
 unfold atAddr cores;rw[List.find?_map];rfl
theorem at_eq{A B:List Pg}(h:cores A=cores B)(x:Int):(atAddr A x).map Pg.core=(atAddr B x).map Pg.core:=by rw[find_map,find_map,h]
theorem page_eq{A B:List Pg}(h:cores A=cores B)(x:Int):(pageAt A x).map Pg.core=(pageAt B x).map Pg.core:=at_eq h _
theorem page_cases{A B:List Pg}(h:cores A=cores B)(x:Int):(pageAt A x=none∧pageAt B x=none)∨∃p q,pageAt A x=some p∧pageAt B x=some q∧p.addr=q.addr∧p.perm=q.perm∧p.bytes=q.bytes:=by
 have e:=page_eq h x;cases hA:pageAt A x with
 |none=>cases hB:pageAt B x with
  |none=>exact .inl ⟨rfl,rfl⟩
  |some q=>rw[hA,hB] at e;cases e
 |some p=>cases hB:pageAt B x with
  |none=>rw[hA,hB] at e;cases e
  |some q=>
   rw[hA,hB] at e;simp only[Option.map_some,Option.some.injEq,Pg.core,Prod.mk.injEq] at e;exact .inr ⟨p,q,rfl,rfl,e.1,e.2.1,e.2.2⟩
theorem okAt{A B:List Pg}(h:cores A=cores B)(need x:Int):Sp.okAt A need x=Sp.okAt B need x:=by
 unfold Sp.okAt;rcases page_cases h x with⟨h1,h2⟩|⟨p,q,h1,h2,_,e,_⟩
 ·rw[h1,h2]
 ·rw[h1,h2];simp only[e]
theorem byteAt{A B:List Pg}(h:cores A=cores B)(x:Int):Sp.byteAt A x=Sp.byteAt B x:=by
 unfold Sp.byteAt;rcases page_cases h x with⟨h1,h2⟩|⟨p,q,h1,h2,_,_,e⟩
 ·rw[h1,h2]
 ·rw[h1,h2];simp only[e]
theorem fitsB{A B:List Pg}(h:cores A=cores B)(addr:Int)(n:Nat)(need:Int):Sp.fitsB A addr n need=Sp.fitsB B addr n need:=by
 unfold Sp.fitsB
 congr 1
 funext k
 exact okAt h need _
theorem fitsE{A B:List Pg}(h:cores A=cores B)(addr:Int)(n:Nat)(need:Int):Sp.fitsE A addr n need=Sp.fitsE B addr n need:=by unfold Sp.fitsE;rw[fitsB h]
theorem getL{A B:List Pg}(h:cores A=cores B)(addr:Int)(n:Nat):Sp.getL A addr n=Sp.getL B addr n:=by
 unfold Sp.getL
 congr 1
 funext k
 exact byteAt h _
theorem getE{A B:List Pg}(h:cores A=cores B)(addr n need:Int):Sp.getE A addr n need=Sp.getE B addr n need:=by unfold Sp.getE;rw[fitsE h]
theorem getS{A B:List Pg}(h:cores A=cores B)(addr n need:Int):Sp.getS A addr n need=Sp.getS B addr n need:=by unfold Sp.getS;rw[fitsB h,getL h]
theorem some_eq{A B:List Pg}(h:cores A=cores B)(x:Int):(pageAt A x).isSome=(pageAt B x).isSome:=by
 rcases page_cases h x with⟨h1,h2⟩|⟨p,q,h1,h2,_⟩<;>rw[h1,h2]<;>rfl
theorem mapE{A B:List Pg}(h:cores A=cores B)(addr perm:Int):Sp.mapE A addr perm=Sp.mapE B addr perm:=by unfold Sp.mapE;rw[some_eq h]
theorem unmapE{A B:List Pg}(h:cores A=cores B)(addr:Int):Sp.unmapE A addr=Sp.unmapE B addr:=by unfold Sp.unmapE;rw[some_eq h]
theorem permB{A B:List Pg}(h:cores A=cores B)(addr:Int):Sp.permB A addr=Sp.permB B addr:=some_eq h _
theorem permV{A B:List Pg}(h:cores A=cores B)(addr:Int):Sp.permV A addr=Sp.permV B addr:=by
 unfold Sp.permV;rcases page_cases h addr with⟨h1,h2⟩|⟨p,q,h1,h2,_,e,_⟩
 ·rw[h1,h2]
 ·rw[h1,h2];exact e
theorem addrs_eq{A B:List Pg}(h:cores A=cores B):Pag.addrs A=Pag.addrs B:=by
 have:=congrArg (List.map Prod.fst) h;unfold cores at this;rw[List.map_map,List.map_map] at this;exact this
theorem cons_inv{A:List Pg}{q:Pg}{B:List Pg}(h:cores A=cores (q::B)):∃p A',A=p::A'∧p.core=q.core∧cores A'=cores B:=by
 cases A with
 |nil=>cases h
 |cons p A'=>
  have h':p.core::cores A'=q.core::cores B:=h;rw[List.cons.injEq] at h';exact⟨p,A',rfl,h'.1,h'.2⟩
theorem nil_inv{A:List Pg}(h:cores A=cores []):A=[]:=by
 cases A with
 |nil=>rfl
 |cons p A'=>cases h
theorem addr_of{p q:Pg}(h:p.core=q.core):p.addr=q.addr:=congrArg Prod.fst h
theorem ins{p q:Pg}(hpq:p.core=q.core):∀ {A B:List Pg},cores A=cores B→cores (insPg p A)=cores (insPg q B)
 |A,[],h=>by rw[nil_inv h];show [p.core]=[q.core];rw[hpq]
 |A,b::B,h=>by
  obtain⟨a,A',rfl,e,h'⟩:=cons_inv h;have e1:=addr_of e;have e2:=addr_of hpq
  show cores (if p.addr<a.addr then _ else _)=cores (if q.addr<b.addr then _ else _)
  rw[e1,e2]
  split
  ·show p.core::a.core::cores A'=q.core::b.core::cores B
   rw[hpq,e,h']
  ·show a.core::cores (insPg p A')=b.core::cores (insPg q B)
   rw[e,ins hpq h']
theorem del(x:Int):∀ {A B:List Pg},cores A=cores B→cores (delPg x A)=cores (delPg x B)
 |A,[],h=>by rw[nil_inv h]
 |A,b::B,h=>by
  obtain⟨a,A',rfl,e,h'⟩:=cons_inv h;have e1:=addr_of e;have ih:=del x h';unfold delPg at ih⊢;rw[List.filter_cons,List.filter_cons,e1]
  split
  ·show a.core::cores _=b.core::cores _
   rw[e,ih]
  ·exact ih
theorem set_core(x v:Int){p q:Pg}(h:p.core=q.core):(setPg x v p).core=(setPg x v q).core:=by
 have h1:=addr_of h;have h2:p.perm=q.perm:=congrArg (fun c=>c.2.1) h;have h3:p.bytes=q.bytes:=congrArg (fun c=>c.2.2) h;unfold setPg Pg.core;rw[h1]
 split
 ·first|(simp only[h2,h3];done)|(simp only[h1,h2,h3];done)
 ·first|exact h|(simp only[h2,h3];done)
theorem set(x v:Int):∀ {A B:List Pg},cores A=cores B→cores (setByte A x v)=cores (setByte B x v)
 |A,[],h=>by rw[nil_inv h]
 |A,b::B,h=>by
  obtain⟨a,A',rfl,e,h'⟩:=cons_inv h
  show(setPg x v a).core::cores (setByte A' x v)=(setPg x v b).core::cores (setByte B x v)
  rw[set_core x v e,set x v h']
theorem put(addr:Int)(xs:List Int){A B:List Pg}(h:cores A=cores B):∀k,cores (putN A addr xs k)=cores (putN B addr xs k)
 |0=>h
 |k+1=>set _ _ (put addr xs h k)
theorem putA{A B:List Pg}(h:cores A=cores B)(addr need:Int)(s:ByteArray):cores (Sp.putA A addr need s)=cores (Sp.putA B addr need s):=by
 unfold Sp.putA;rw[fitsB h]
 split
 ·exact put _ _ h _
 ·exact h
theorem mapA{A B:List Pg}(h:cores A=cores B)(addr:Int)(b c:Nat)(perm:Int):cores (Sp.mapA A addr b perm)=cores (Sp.mapA B addr c perm):=by
 unfold Sp.mapA;rw[mapE h]
 split
 ·exact ins (p:=pgNew addr b perm) (q:=pgNew addr c perm) rfl h
 ·exact h
theorem unmapA{A B:List Pg}(h:cores A=cores B)(addr:Int):cores (Sp.unmapA A addr)=cores (Sp.unmapA B addr):=by
 unfold Sp.unmapA;rw[unmapE h]
 split
 ·exact del _ h
 ·exact h
end Cor
open Go.RowKit Word
namespace Cp
structure Regs(r:List Int):Prop where
 len:r.length=16
 bd:∀x,x∈r→0≤x∧x≤4294967295
def rg(r:List Int)(n:Int):Int:=r.getD n.toNat 0
theorem rg_bd{r:List Int}(h:Regs r)(n:Int):0≤rg r n∧rg r n≤4294967295:=by
 unfold rg
 by_cases hn:n.toNat<r.length
 ·rw[List.getD,Zg hn];exact h.bd _ (List.getElem_mem hn)
 ·rw[List.getD,List.getElem?_eq_none (by omega)];exact⟨by simp,by simp⟩
def putG(r:List Int)(n v:Int):List Int:=if n=0 then r else r.set n.toNat v
structure Out where
 kind:Int
 num:Int
 why:Int
 r:List Int
 pc:Int
 A:List Pg
end Cp
open Go.RowKit Word
namespace Cp
structure Like(o p:Out):Prop where
 kind:o.kind=p.kind
 num:o.num=p.num
 why:o.why=p.why
 r:o.r=p.r
 pc:o.pc=p.pc
 cores:cores o.A=Go.Proofs.YtjjdjpdmgaipeaaGreat.cores p.A
end Cp
structure SStep(w w':World)(sb mb:Nat)(A A':List Pg):Prop where
 sp:Spc w' sb mb A'
 mod:Mod (Spc.foot sb mb A) w w'
 foot:∀k,Spc.foot sb mb A' k→Spc.foot sb mb A k∨w.heap.size≤k
theorem SStep.refl{w:World}{sb mb:Nat}{A:List Pg}(h:Spc w sb mb A):SStep w w sb mb A A:=⟨h,Mod.refl _ _,fun _ g=>.inl g⟩
namespace Sp
section
variable {w:World} {sb mb:Nat} {A:List Pg}
theorem s_map(h:Spc w sb mb A)(addr perm:Int)(h0:0≤addr)(h1:addr≤4294967295)(p0:0≤perm)(p1:perm≤255):
  Calls Tryz.prog 131 #[.pointer (some ⟨sb,0,none⟩),.int .u32 addr,.int .u8 perm] w fun e w'=>∃blk,e=.returned (.int .i64 (mapE A addr perm))∧SStep w w' sb mb A (mapA A addr blk perm):=
 (map_any h addr perm h0 h1 p0 p1).mono fun e w' ⟨g1,g2,g3⟩=>⟨_,g1,⟨g2,g3.mono fun k _ hk=>.inr (.inl hk),fun k hk=>by
  rcases foot_mapA hk with rfl|g
  ·exact .inr (Nat.le_refl _)
  ·exact .inl g⟩⟩
theorem foot_unmapA{addr:Int}{k:Nat}(h:Spc.foot sb mb (unmapA A addr) k):Spc.foot sb mb A k:=by
 unfold unmapA at h
 split at h
 ·rcases h with h|h|⟨p,hp,h⟩
  ·exact .inl h
  ·exact .inr (.inl h)
  ·exact .inr (.inr ⟨p,(mem_delPg.1 hp).1,h⟩)
 ·exact h
theorem s_unmap(h:Spc w sb mb A)(addr:Int)(h0:0≤addr)(h1:addr≤4294967295):
  Calls Tryz.prog 321 #[.pointer (some ⟨sb,0,none⟩),.int .u32 addr] w fun e w'=>e=.returned (.int .i64 (unmapE A addr))∧SStep w w' sb mb A (unmapA A addr):=
 (unmap_any h addr h0 h1).mono fun e w' ⟨g1,g2,g3⟩=>⟨g1,⟨g2,g3.mono fun k _ hk=>.inr (.inl hk),fun k hk=>.inl (foot_unmapA hk)⟩⟩
theorem s_set(h:Spc w sb mb A)(addr:Int)(s:ByteArray)(h0:0≤addr)(h1:addr≤4294967295)(hn:s.size≤140737488355328):
  Calls Tryz.prog 132 #[.pointer (some ⟨sb,0,none⟩),.int .u32 addr,.string s] w fun e w'=>e=.returned (.int .i64 (fitsE A addr s.size 0))∧SStep w w' sb mb A (putA A addr 0 s):=
 (set h addr s h0 h1 hn).mono fun e w' ⟨g1,g2,g3⟩=>⟨g1,⟨g2,g3.mono fun k _ hk=>.inr (.inr hk),fun k hk=>.inl (foot_putA.1 hk)⟩⟩
theorem s_write(h:Spc w sb mb A)(addr:Int)(s:ByteArray)(h0:0≤addr)(h1:addr≤4294967295)(hn:s.size≤140737488355328):
  Calls Tryz.prog 278 #[.pointer (some ⟨sb,0,none⟩),.int .u32 addr,.string s] w fun e w'=>e=.returned (.int .i64 (fitsE A addr s.size 2))∧SStep w w' sb mb A (putA A addr 2 s):=
 (write h addr s h0 h1 hn).mono fun e w' ⟨g1,g2,g3⟩=>⟨g1,⟨g2,g3.mono fun k _ hk=>.inr (.inr hk),fun k hk=>.inl (foot_putA.1 hk)⟩⟩
end
end Sp
structure Pair(w:World)(sb mb:Nat)(A:List Pg)(rb:Nat)(lv:Value)(R:List Rp):Prop where
 sp:Spc w sb mb A
 rp:Rsp w rb lv R
 apart:∀k,Spc.foot sb mb A k→¬Rsp.foot rb lv R k
theorem Rsp.keep{w w':World}{rb:Nat}{lv:Value}{R:List Rp}{F:Nat→Prop}(h:Rsp w rb lv R)(hm:Mod F w w')(hf:∀k,Rsp.foot rb lv R k→¬F k):Rsp w' rb lv R:=h.frame fun k hk=>hm.block k (h.lt hk) (hf k hk)
section
variable {w w':World} {sb mb rb:Nat} {A A':List Pg} {lv lv':Value} {R R':List Rp}
theorem Pair.below(h:Pair w sb mb A rb lv R)(hb:Below w.heap.size w w'):Pair w' sb mb A rb lv R:=⟨h.sp.below hb fun _ hk=>h.sp.lt hk,h.rp.same hb,h.apart⟩
theorem Pair.left(h:Pair w sb mb A rb lv R)(s:SStep w w' sb mb A A'):Pair w' sb mb A' rb lv R:=
 ⟨s.sp,h.rp.keep s.mod fun k hk g=>h.apart k g hk,fun k hk g=>by
  rcases s.foot k hk with q|q
  ·exact h.apart k q g
  ·have:=h.rp.lt g;omega⟩
theorem Pair.right(h:Pair w sb mb A rb lv R)(s:RStep w w' rb lv R lv' R'):Pair w' sb mb A rb lv' R':=
 ⟨h.sp.keep s.mod fun k hk g=>h.apart k hk g,s.sp,fun k hk g=>by
  rcases s.foot k g with q|q
  ·exact h.apart k hk q
  ·have:=h.sp.lt hk;omega⟩
end
open Go.RowKit Word
namespace Cp
def cells(r:List Int)(pc:Int):Array Value:=(r.map (Value.int .u32)++[Value.int .u32 pc]).toArray
end Cp
structure Cpu(t:TypeId)(w:World)(cb:Nat)(r:List Int)(pc:Int):Prop where
 blk:w.heap[cb]? =some (.cells (Cp.cells r pc) t (0,0))
 regs:Cp.Regs r
 p0:0≤pc
 p1:pc≤4294967295
namespace Cpu
variable {t:TypeId} {w w':World} {cb:Nat} {r:List Int} {pc:Int}
theorem lt(h:Cpu t w cb r pc):cb<w.heap.size:=lQ h.blk
theorem frame(h:Cpu t w cb r pc)(e:w'.heap[cb]? =w.heap[cb]?):Cpu t w' cb r pc:=⟨e.trans h.blk,h.regs,h.p0,h.p1⟩
theorem below(h:Cpu t w cb r pc)(hb:Below w.heap.size w w'):Cpu t w' cb r pc:=h.frame (hb.block _ h.lt)
theorem keep{F:Nat→Prop}(h:Cpu t w cb r pc)(hm:Mod F w w')(hf:¬F cb):Cpu t w' cb r pc:=h.frame (hm.block _ h.lt hf)
theorem size:(Cp.cells r pc).size=r.length+1:=by simp[Cp.cells]
theorem cellReg(h:Cpu t w cb r pc)(n:Nat)(hn:n<16):w.cell? ⟨cb,n,none⟩=some (.int .u32 (Cp.rg r n)):=by
 unfold World.cell?;rw[h.blk];have hl:=h.regs.len;have:n<r.length:=by omega
 simp[Cp.cells,Cp.rg,List.getElem?_append,this]
theorem cellPc(h:Cpu t w cb r pc):w.cell? ⟨cb,16,none⟩=some (.int .u32 pc):=by
 unfold World.cell?;rw[h.blk];have hl:=h.regs.len;simp[Cp.cells,hl]
theorem thaw(h:Cpu t w cb r pc)(n:Nat):w.frozen? ⟨cb,n,none⟩=false:=by
 unfold World.frozen?;rw[h.blk];rfl
theorem setReg(h:Cpu t w cb r pc)(n:Nat)(hn:n<16)(v:Int)(v0:0≤v)(v1:v≤4294967295):Cpu t (w.setCell ⟨cb,n,none⟩ (.int .u32 v)) cb (r.set n v) pc:=by
 refine⟨?_,⟨by rw[List.length_set,h.regs.len],fun x hx=> ?_⟩,h.p0,h.p1⟩
 ·rw[setCell_eq_setRow _ _ _ _ _ _ _ h.blk];have:=setRow_heap w cb _ ((Cp.cells r pc).setIfInBounds n (.int .u32 v)) _ _ h.blk;rw[this];have hl:=h.regs.len;have hn2:n<r.length:=by omega
  congr 2
  unfold Cp.cells
  apply Array.ext'
  simp only[Array.toList_setIfInBounds];rw[List.set_append_left _ _ (by simpa using hn2),List.map_set]
 ·rcases List.mem_or_eq_of_mem_set hx with g|rfl
  ·exact h.regs.bd x g
  ·exact⟨v0,v1⟩
end Cpu
namespace Cp
theorem putG_nat(r:List Int)(n:Nat)(v:Int)(h:¬n=0):putG r n v=r.set n v:=by
 unfold putG;rw[if_neg (by omega),Int.toNat_natCast]
def PutPost(t:TypeId)(w:World)(cb:Nat)(r:List Int)(pc n v:Int)(e:Ending)(w':World):Prop:=e=.returned (.tuple #[])∧Cpu t w' cb (putG r n v) pc∧Mod (fun k=>k=cb) w w'
theorem put{w:World}{cb:Nat}{r:List Int}{pc:Int}(h:Cpu 291 w cb r pc)(n:Nat)(hn:n<16)(v:Int)(v0:0≤v)(v1:v≤4294967295):
  Calls Tryz.prog 184 #[.pointer (some ⟨cb,0,none⟩),.int .u8 n,.int .u32 v] w (PutPost 291 w cb r pc n v):=by
 by_cases h0:n=0
 ·subst h0;have H:=Lh h;clear h;go_enter func184,ntmps184;go_wp2;go_end0;exact⟨rfl,H.out,Mod.refl _ _⟩
 ·have g0:(0:Int)<n:=by omega
  have g1:(n:Int)<16:=by omega
  have hc:=h.cellReg n hn;have hf:=h.thaw n;have HS:=Lh (h.setReg n hn v v0 v1);rw[←putG_nat r n v h0] at HS;clear h;go_enter func184,ntmps184;go_wp2;go_end0;exact⟨rfl,HS.out,Mod.setCell (F:=fun k=>k=cb) (Mod.refl _ _) _ (.inl rfl) _⟩
end Cp
end Go.Proofs.YtjjdjpdmgaipeaaGreat
namespace Go.Proofs.YtjjdjpdmgaipeaaGreat.Word
open Go.RowKit
def getRel(s:ByteArray)(v i:Value):Prop:=∃(k:Nat) (x:Int),k≤s.size∧i=.int .i64 k∧v=.int .u32 x∧0≤x∧x≤4294967295∧x=getV ((nums s).take k)
theorem get_ok(s:ByteArray)(h1:1≤s.size)(h4:s.size≤4)(w:World):
  Calls Tryz.prog 318 #[.string s] w fun e w'=>e=.returned (.tuple #[.int .u32 (getV (nums s)),.int .i64 0])∧w=w':=by
 go_enter func318,ntmps318;go_wp2;go_loop [2,15,4] (fun v i k=>getRel s v i) (fun _ i _=>s.size - (intOf i).toNat)
 case atStart=>exact⟨0,0,by omega,rfl,rfl,by omega,by omega,rfl⟩
 case round=>
  obtain⟨k,x,hk,rfl,rfl,x0,x1,hx⟩:=hrel
  by_cases hk2:k<s.size
  ·have Hn:=Lh (get_next s k x hk2 h4 hx);have Hb:=Lh (getV_take_bd s (k+1) h4);clear hx;go_wp2;refine⟨⟨k+1,_,by omega,by go_num,rfl, ?_, ?_,Hn.out⟩,by simp[intOf];omega⟩
   ·rw[Hn.out];exact Hb.out.1
   ·rw[Hn.out];exact Hb.out.2
  ·obtain rfl:k=s.size:=by omega
   have Hx:=Lh hx;clear hx;go_wp2;go_ret2;refine⟨ret_ie ?_,rfl⟩;rw[Hx.out,List.take_of_length_le (by rw[nums_length];omega)]
end Go.Proofs.YtjjdjpdmgaipeaaGreat.Word
namespace Go.Proofs.YtjjdjpdmgaipeaaGreat
open Go.RowKit Word
namespace Cp
def blks(A:List Pg):List Nat:=A.map Pg.blk
theorem pgBlk_iff{A B:List Pg}(h:blks A=blks B)(k:Nat):Sp.pgBlk A k↔Sp.pgBlk B k:=by
 have e:∀C:List Pg,Sp.pgBlk C k↔k∈blks C:=fun C=>by
  unfold Sp.pgBlk blks;rw[List.mem_map];exact⟨fun⟨p,h1,h2⟩=>⟨p,h1,h2.symm⟩,fun⟨p,h1,h2⟩=>⟨p,h1,h2.symm⟩⟩
 rw[e,e,h]
theorem foot_iff{A B:List Pg}(h:blks A=blks B){sb mb k:Nat}:Spc.foot sb mb A k↔Spc.foot sb mb B k:=by
 unfold Spc.foot;have:=pgBlk_iff h k;unfold Sp.pgBlk at this;rw[this]
section
variable {w:World} {cb sb mb:Nat} {A:List Pg} {r:List Int} {pc:Int}
theorem reg_ok(h:Cpu 291 w cb r pc)(n:Nat)(hn:n<16):
  Calls Tryz.prog 101 #[.pointer (some ⟨cb,0,none⟩),.int .i64 n] w fun e w'=>e=.returned (.tuple #[.int .u32 (rg r n),.int .i64 0])∧w=w':=by
 have hc:=h.cellReg n hn;have g0:decide ((n:Int)<0)=false:=decide_eq_false (by omega);have g1:decide ((16:Int)≤n)=false:=decide_eq_false (by omega);have g2:(n:Int)<16:=by omega
 clear h;go_enter func101,ntmps101;go_wp2;go_ret2;exact⟨rfl,rfl⟩
theorem setReg_ok(h:Cpu 291 w cb r pc)(n:Nat)(hn:n<16)(v:Int)(v0:0≤v)(v1:v≤4294967295):
  Calls Tryz.prog 78 #[.pointer (some ⟨cb,0,none⟩),.int .i64 n,.int .u32 v] w fun e w'=>e=.returned (.int .i64 0)∧Cpu 291 w' cb (putG r n v) pc∧Mod (fun k=>k=cb) w w':=by
 have g0:decide ((n:Int)<0)=false:=decide_eq_false (by omega);have g1:decide ((16:Int)≤n)=false:=decide_eq_false (by omega);have g2:(n:Int) % 256=n:=by omega
 have g3:IntKind.u8.wrap (n:Int)=n:=by rw[IntKind.wrap_u8];omega
 have H:=Lh h;clear h;go_enter func78,ntmps78;go_wp2_with fail;refine(put H.out n hn v v0 v1).mono ?_;rintro e w2 ⟨rfl,hc,hm⟩;have HC:=Lh hc;have HM:=Lh hm;clear hc hm;go_wp2;go_ret;exact⟨rfl,HC.out,HM.out⟩
theorem pc_ok(h:Cpu 291 w cb r pc):Calls Tryz.prog 93 #[.pointer (some ⟨cb,0,none⟩)] w fun e w'=>e=.returned (.int .u32 pc)∧w=w':=by
 have hc:=h.cellPc;clear h;go_enter func93,ntmps93;go_wp2;go_ret;exact⟨rfl,rfl⟩
theorem new(pc:Int)(p0:0≤pc)(p1:pc≤4294967295)(w:World):Calls Tryz.prog 179 #[.int .u32 pc] w fun e w'=>e=.returned (.pointer (some ⟨w.heap.size,0,none⟩))∧Cpu 291 w' w.heap.size (List.replicate 16 0) pc∧Below w.heap.size w w':=by
 go_enter func179,ntmps179;go_wp2;go_ret;refine⟨rfl,⟨(heap_alloc_new w _).trans ?_,⟨rfl,fun x hx=> ?_⟩,p0,p1⟩,Ba _⟩
 ·rfl
 ·have:=List.eq_of_mem_replicate hx;omega
end
end Cp
open Go.RowKit Word
open Go.RowKit
namespace Sp
theorem get_page{A:List Pg}(hup:A.Pairwise fun p q=>p.addr<q.addr){p:Pg}(hp:p∈A)(hok:p.ok):pageAt A p.addr=some p∧getE A p.addr 256 0=0∧getS A p.addr 256 0=strOfNums p.bytes:=by
 have a0:=hok.a0;have a2:=hok.a2;have hl:=hok.len;have hin:∀k:Nat,k<256→pageAt A (p.addr+k)=some p:=fun k hk=>by
  unfold pageAt;rw[show p.addr+(k:Int) - (p.addr+(k:Int)) % 256=p.addr by omega];exact atAddr_eq_some hup hp
 have hfit:fitsB A p.addr 256 0=true:=by
  unfold fitsB;rw[List.all_eq_true];intro k hk;unfold okAt;rw[hin k (List.mem_range.1 hk)];simp[bits]
  decide
 refine⟨by have:=hin 0 (by omega);simpa using this, ?_, ?_⟩
 ·unfold getE;rw[if_neg (by omega)];exact fitsE_yes hfit
 ·unfold getS;rw[if_neg (by omega),show(256:Int).toNat=256 from rfl,if_pos hfit]
  congr 1
  refine List.ext_getElem (by rw[getL_length,hl]) fun i h1 h2=> ?_
  have hi:i<256:=by rw[getL_length] at h1;exact h1
  have e:(getL A p.addr 256)[i]? =some (byteAt A (p.addr+(i:Int))):=by unfold getL;rw[List.getElem?_map,List.getElem?_range hi];rfl
  rw[Zg h1,Option.some.injEq] at e;rw[e];unfold byteAt;rw[hin i hi]
  show p.bytes.getD ((p.addr+(i:Int)) % 256).toNat 0=_
  rw[show((p.addr+(i:Int)) % 256).toNat=i by omega,List.getD,Zg (by omega)];rfl
def smRel(w:World)(n:Nat)(vi:Value)(wr:World):Prop:=∃i:Nat,vi=.int .i64 i∧i≤n∧Below w.heap.size w wr
theorem same{w:World}{sb mb rb:Nat}{A:List Pg}{lv:Value}{R:List Rp}(h:Pair w sb mb A rb lv R)(hc:cores A=cores (rpgs R)):
  Calls Tryz.prog 121 #[.pointer (some ⟨sb,0,none⟩),.pointer (some ⟨rb,0,none⟩)] w fun e w'=>e=.returned (.bool true)∧Below w.heap.size w w':=by
 have hln:=h.rp.len;obtain⟨n,hn⟩:∃n,R.length=n:=⟨_,rfl⟩;have Hn:=Lh hn;rw[hn] at hln;have H:=Lh h;obtain⟨a,cap,hlv,hrow,_⟩:=h.rp.row;have Hrow:=Lh hrow;have hc0:=h.rp.cellHead;rw[hlv,hn] at hc0;have Hlv:=Lh hlv;have Hc0:=Lh hc0;have hrb:rb<w.heap.size:=lQ h.rp.head;have Hc:=Lh hc;clear h hn hrow hc0 hlv hc;go_enter func121,ntmps121;go_wp2_with fail;refine(Pag.pages H.out.sp).mono ?_;rintro e w1 ⟨v1,rfl,ho1,hb1⟩;have HP1:=Lh (H.out.below hb1);have hb1s:=hb1.size;go_wp2_with fail;refine(Rs.pages HP1.out.rp).mono ?_;rintro e w2 ⟨v2,rfl,ho2,hb2⟩;have ho1':w2.ownsRow w.heap.size 22 1 v1 A.length ((Pag.addrs A).map Pag.encU):=row_keep ho1 fun k hk=>hb2.block k (ho1.lt k hk).2
 have hl1:A.length=(Pag.addrs A).length:=by unfold Pag.addrs;rw[List.length_map]
 have hl2:(rpgs R).length=(Pag.addrs (rpgs R)).length:=by unfold Pag.addrs;rw[List.length_map]
 rw[hl1] at ho1';rw[hl2] at ho2;obtain⟨a1,c1,rfl,hw1⟩:=Rs.words_own ho1';obtain⟨a2,c2,rfl,hw2⟩:=Rs.words_own ho2;have Hw1:=Lh hw1;have Hw2:=Lh hw2;have HB2:=Lh (bQ hb1 hb2);have he:=Lh (Cor.addrs_eq Hc.out);clear ho1 ho2 ho1' hw1 hw2 hb1 hb2 hl1 hl2 hb1s;have Hsw:=Lh (Rs.sameWords (ca:=c1) (cb:=c2) Hw1.out Hw2.out);rw[decide_eq_true he.out] at Hsw;generalize (Pag.addrs A).length=la at*;generalize (Pag.addrs (rpgs R)).length=lb at*;go_wp2_with fail;refine Hsw.out.mono ?_;rintro e w3 ⟨rfl,hb3⟩;have HB3:=Lh (bQ HB2.out hb3);clear hb3 HB2 Hsw Hw1 Hw2 HP1 he;go_wp2;go_loopw [5,6,7,8,9] (fun vi _ _ _ _ wr=>smRel w n vi wr) (fun vi _ _ _ _ _=>n - (intOf vi).toNat)
 case atStart=>exact⟨0,by go_num,Nat.zero_le _,HB3.out⟩
 case round=>
  obtain⟨i,rfl,hi,hbw⟩:=hrel;have hsz:=hbw.size;have hc:wr.cell? ⟨rb,0,none⟩=some (.slice a n cap):=(hbw.cell hrb).trans Hc0.out;have HB:=Lh hbw;clear HB3
  by_cases hin:i<n
  ·have hin2:i<R.length:=by rw[Hn.out];exact hin
   obtain⟨g,rfl,hcell⟩:=Hrow.out (by rw[Hn.out];omega);have hci0:w.cell? ⟨g,i,none⟩=some (R[i]).ptr:=hcell i _ (Zg hin2);have hg:g<w.heap.size:=H.out.rp.lt (.inr (.inl (by rw[Hlv.out];rfl)));have hci:wr.cell? ⟨g,i,none⟩=some (R[i]).ptr:=(hbw.cell hg).trans hci0;have HP:=Lh (H.out.below hbw);have hqm:R[i]∈R:=List.getElem_mem hin2;have hpg:=HP.out.rp.pages R[i] hqm;have hpg0:=H.out.rp.pages R[i] hqm;have hpl:=hpg0.lt1;have hbl:=hpg0.lt2;obtain⟨x0,x1,x2⟩:=hpg.cells;have hok:=hpg.ok;have b0:=hok.a0;have b1:=hok.a1;have hbl8:=hok.len;have Hpg:=Lh hpg;obtain⟨q1,q2,q3⟩:=get_page H.out.rp.up (List.mem_map.2 ⟨R[i],hqm,rfl⟩) hok;have y1:=Lh ((Cor.permV Hc.out R[i].pg.addr).trans (show permV (rpgs R) R[i].pg.addr=R[i].pg.perm by unfold permV;rw[show pageAt (rpgs R) R[i].pg.addr=some R[i].pg from q1]));have y2:=Lh ((Cor.permB Hc.out R[i].pg.addr).trans (show permB (rpgs R) R[i].pg.addr=true by unfold permB;rw[show pageAt (rpgs R) R[i].pg.addr=some R[i].pg from q1];rfl));have y3:=Lh ((Cor.getE Hc.out R[i].pg.addr 256 0).trans q2);have y4:=Lh ((Cor.getS Hc.out R[i].pg.addr 256 0).trans q3);have Hpm:=Lh (Sp.perm_any HP.out.sp R[i].pg.addr b0 (by omega));rw[y1.out,y2.out] at Hpm;unfold Rp.ptr at hci;clear hbw hpg0 hcell hci0 q1 q2 q3 hok;go_wp2_with (go_at_call 126;(with_reducible refine Hpm.out.mono ?_);rintro e w1 ⟨rfl,rfl⟩);refine(Sp.look HP.out.sp R[i].pg.addr 256 b0 (by omega)).mono ?_;rintro e w4 ⟨rfl,hb4⟩;rw[y3.out,y4.out];have hwz:=Hpg.out.lt1;have hwz2:=Hpg.out.lt2;have Hpg4:=Lh (Hpg.out.keep (hb4.block _ hwz) (hb4.block _ hwz2));have HB4:=Lh (bQ HB.out hb4);have hc4:w4.cell? ⟨rb,0,none⟩=some (.slice (some ⟨g,0,none⟩) n cap):=(hb4.cell (p:=⟨rb,0,none⟩) (Nat.lt_of_lt_of_le hrb hsz)).trans hc;have hci4:w4.cell? ⟨g,i,none⟩=some (.pointer (some ⟨R[i].pg.blk,0,none⟩)):=(hb4.cell (p:=⟨g,i,none⟩) (Nat.lt_of_lt_of_le hg hsz)).trans hci;obtain⟨z0,z1,z2⟩:=Hpg4.out.cells;have hcv:=run_convert_bytes_arg (P:=Tryz.prog) w4 30 5 Tryz.underlying30 Tryz.underlying5 R[i].bb 0 256 R[i].cap R[i].pg.bytes hbl8 (fun j hj=>by rw[Nat.zero_add];exact Hpg4.out.byte j hj) 9 Tryz.underlying9;clear hb4 y1 y2 y3 y4 Hpm hc hci x0 x1 x2 HP;generalize strOfNums R[i].pg.bytes=ss at*;generalize R[i].pg.perm=pp at*;go_wp2;refine⟨⟨i+1,by go_num,by omega,HB4.out⟩,by simp[intOf];omega⟩
  ·obtain rfl:i=n:=by omega
   go_wp2;go_ret;exact⟨rfl,HB.out⟩
end Sp
namespace Kp
open Sp
structure Ok(A:List Pg):Prop where
 ok:∀p,p∈A→p.ok
 up:A.Pairwise fun p q=>p.addr<q.addr
theorem Ok.of{w:World}{sb mb:Nat}{A:List Pg}(h:Spc w sb mb A):Ok A:=⟨h.ok,h.up⟩
end Kp
open Go.RowKit Word
structure En where
 num:Int
 kind:Int
 code:Int
 why:Int
 text:ByteArray
 own:List Int
 A:List Pg
 r:List Int
 pc:Int
namespace En
def redE(E:En):Int:=if E.kind≠2 then 3 else 0
def exit(E:En)(c:Int):En:=if E.kind≠2 then E else {E with kind:=3,code:=c,why:=0}
def mayP(x:Int):Bool:=x % 256 == 0&&decide (256≤x)&&decide (x<1048576)
def mayE(E:En)(x:Int):Int:=if E.kind≠2 then 3 else if mayP x=false then 2 else 0
def ins(x:Int):List Int→List Int
 | []=>[x]
 |y::l=>if x<y then x::y::l else y::ins x l
def pageE(E:En)(x:Int):Int:=if E.mayE x≠0 then E.mayE x else Sp.mapE E.A x 3
def page(E:En)(x:Int)(blk:Nat):En:=if E.pageE x≠0 then E else {E with A:=Sp.mapA E.A x blk 3,own:=ins x E.own}
def dropE(E:En)(x:Int):Int:=if E.mayE x≠0 then E.mayE x else if x∈E.own then Sp.unmapE E.A x else 3
def drop(E:En)(x:Int):En:=if E.mayE x≠0 then E else if x∈E.own then {E with A:=Sp.unmapA E.A x,own:=E.own.filter (fun y=>y != x)} else E
def putE(E:En)(s:ByteArray):Int:=if E.kind≠2 then 3 else if 4096<E.text.size+s.size then 4 else 0
def put(E:En)(s:ByteArray):En:=if E.putE s≠0 then E else {E with text:=E.text++s}
def arg(E:En)(n:Int):Int:=if 0≤n∧n<16 then Cp.rg E.r n else 0
def answer(E:En)(v y:Int):En:= {E with r:=Cp.putG (Cp.putG E.r 1 v) 2 y}
structure Ok(E:En):Prop where
 up:E.own.Pairwise (·<·)
 may:∀x,x∈E.own→x % 256=0∧256≤x∧x<1048576
 has:∀x,x∈E.own→(atAddr E.A x).isSome=true
 text:E.text.size≤4096
theorem len_up:∀(l:List Int) (lo hi:Int),l.Pairwise (·<·)→(∀x,x∈l→lo≤x∧x<hi)→lo≤hi→(l.length:Int)≤hi - lo
 | [],lo,hi,_,_,h=>by simp;omega
 |y::l,lo,hi,hp,hb,h=>by
  have hy:=hb y (List.mem_cons_self ..);have:=len_up l (y+1) hi (List.pairwise_cons.1 hp).2 (fun x hx=>⟨by have:=(List.pairwise_cons.1 hp).1 x hx;omega,(hb x (List.mem_cons_of_mem _ hx)).2⟩) (by omega);simp only[List.length_cons,Int.natCast_add,Int.natCast_one];omega
theorem Ok.len{E:En}(h:E.Ok):E.own.length≤2000000:=by
 have:=len_up E.own 0 1048576 h.up (fun x hx=>⟨by have:=h.may x hx;omega,(h.may x hx).2.2⟩) (by omega);omega
theorem mem_ins{x y:Int}:∀ {l:List Int},y∈ins x l↔y=x∨y∈l
 | []=>by simp[ins]
 |z::l=>by
  unfold ins
  split
  ·simp
  ·simp[mem_ins (l:=l)]
   constructor
   ·rintro(h|h|h)<;>simp[h]
   ·rintro(h|h|h)<;>simp[h]
theorem up_ins{x:Int}:∀ {l:List Int},l.Pairwise (·<·)→x∉l→(ins x l).Pairwise (·<·)
 | [],_,_=>List.pairwise_singleton _ _
 |z::l,h,hx=>by
  obtain⟨h1,h2⟩:=List.pairwise_cons.1 h;unfold ins
  split
  ·rename_i g
   exact List.pairwise_cons.2 ⟨fun y hy=>by
    rcases List.mem_cons.1 hy with rfl|hy
    ·exact g
    ·exact Int.lt_trans g (h1 y hy),h⟩
  ·rename_i g
   refine List.pairwise_cons.2 ⟨fun y hy=> ?_,up_ins h2 fun q=>hx (List.mem_cons_of_mem _ q)⟩;rcases mem_ins.1 hy with rfl|hy
   ·have:y≠z:=fun e=>hx (e▸List.mem_cons_self ..)
    omega
   ·exact h1 y hy
theorem ins_place:∀ {l:List Int} {x:Int} {k:Nat},Sl.Place l x k→x∉l→l.take k++x::l.drop k=ins x l
 | [],x,k,h,_=>by simp[ins]
 |y::l,x,0,h,hx=>by
  have h1:=h.hi 0 y (Nat.le_refl _) rfl;have h2:y≠x:=fun e=>hx (e▸List.mem_cons_self ..)
  unfold ins;rw[if_pos (by omega)];rfl
 |y::l,x,k+1,h,hx=>by
  have h1:=h.lo 0 y (Nat.succ_pos _) rfl;unfold ins;rw[if_neg (by omega),List.take_succ_cons,List.drop_succ_cons,List.cons_append,ins_place (l:=l) ⟨by have:=h.le;simp at this;exact this,fun j z hj hz=>h.lo (j+1) z (by omega) (by simpa using hz),fun j z hj hz=>h.hi (j+1) z (by omega) (by simpa using hz)⟩ fun q=>hx (List.mem_cons_of_mem _ q)]
theorem place_mem{l:List Int}{x:Int}{k:Nat}(hup:l.Pairwise (·<·))(h:Sl.Place l x k):x∈l↔l[k]? =some x:=by
 refine⟨fun hx=> ?_,fun hx=>List.mem_of_getElem? hx⟩;obtain⟨j,hj⟩:=List.getElem?_of_mem hx;rcases Nat.lt_trichotomy j k with g|rfl|g
 ·have:=h.lo j x g hj;omega
 ·exact hj
 ·have hjl:=(List.getElem?_eq_some_iff.1 hj).1;have hk:l[k]? =some l[k]:=Zg (by omega);have h1:=h.hi k _ (Nat.le_refl _) hk;have h2:=(List.pairwise_iff_getElem.1 hup) k j (by omega) hjl g;have h3:=(List.getElem?_eq_some_iff.1 hj).2;omega
theorem erase_place:∀ {l:List Int} {x:Int} {k:Nat},l.Pairwise (·<·)→l[k]? =some x→l.eraseIdx k=l.filter (fun y=>y != x)
 | [],x,k,_,h=>by simp at h
 |y::l,x,0,hup,h=>by
  obtain⟨h1,h2⟩:=List.pairwise_cons.1 hup;simp at h;subst h;rw[List.eraseIdx_cons_zero,List.filter_cons_of_neg (by simp)]
  symm
  rw[List.filter_eq_self];intro z hz;have:=h1 z hz
  simp
  omega
 |y::l,x,k+1,hup,h=>by
  obtain⟨h1,h2⟩:=List.pairwise_cons.1 hup;simp at h;have:=h1 x (List.mem_of_getElem? h);rw[List.eraseIdx_cons_succ,List.filter_cons_of_pos (by simp;omega),erase_place h2 h]
end En
structure EAt where
 eb:Nat
 sb:Nat
 mb:Nat
 cb:Nat
 lv:Value
def EAt.foot(a:EAt)(A:List Pg)(k:Nat):Prop:=k=a.eb∨k=a.cb∨Spc.foot a.sb a.mb A k∨a.lv.ownBlock=some k
def EAt.cells(a:EAt)(E:En):Array Value:= #[.pointer (some ⟨a.sb,0,none⟩),a.lv,.pointer (some ⟨a.cb,0,none⟩),.int .i64 E.num,.int .u8 E.kind,.int .u32 E.code,.int .i64 E.why,.string E.text]
structure Env(w:World)(a:EAt)(E:En):Prop where
 blk:w.heap[a.eb]? =some (.cells (a.cells E) 165 (0,0))
 cp:Cpu 291 w a.cb E.r E.pc
 sp:Spc w a.sb a.mb E.A
 ls:Sl.Lst w a.lv E.own
 ec:a.eb≠a.cb
 es:¬Spc.foot a.sb a.mb E.A a.eb
 cs:¬Spc.foot a.sb a.mb E.A a.cb
 le:∀g,a.lv.ownBlock=some g→g<w.heap.size∧g≠a.eb∧g≠a.cb∧¬Spc.foot a.sb a.mb E.A g
 ok:E.Ok
namespace Env
variable {w w':World} {a:EAt} {E:En}
theorem lt(h:Env w a E)(k:Nat)(hk:a.foot E.A k):k<w.heap.size:=by
 rcases hk with rfl|rfl|g|g
 ·exact lQ h.blk
 ·exact h.cp.lt
 ·exact h.sp.lt g
 ·exact(h.le k g).1
theorem frame(h:Env w a E)(hf:∀k,a.foot E.A k→w'.heap[k]? =w.heap[k]?)(hz:w.heap.size≤w'.heap.size):Env w' a E:=
 {
  h with
  blk:=(hf _ (.inl rfl)).trans h.blk
  cp:=h.cp.frame (hf _ (.inr (.inl rfl)))
  sp:=h.sp.frame fun k hk=>hf k (.inr (.inr (.inl hk)))
  ls:=h.ls.frame fun g hg=>hf g (.inr (.inr (.inr hg)))
  le:=fun g hg=>⟨Nat.lt_of_lt_of_le (h.le g hg).1 hz,(h.le g hg).2⟩}
theorem below(h:Env w a E)(hb:Below w.heap.size w w'):Env w' a E:=h.frame (fun k hk=>hb.block k (h.lt k hk)) hb.size
theorem keep{F:Nat→Prop}(h:Env w a E)(hm:Mod F w w')(hF:∀k,a.foot E.A k→¬F k):Env w' a E:=h.frame (fun k hk=>hm.block k (h.lt k hk) (hF k hk)) hm.size
theorem cell(h:Env w a E)(i:Nat)(v:Value)(hi:(a.cells E)[i]? =some v):w.cell? ⟨a.eb,i,none⟩=some v:=by
 unfold World.cell?;rw[h.blk];exact hi
theorem free(h:Env w a E)(i:Nat):w.frozen? ⟨a.eb,i,none⟩=false:=by
 unfold World.frozen?;rw[h.blk]
 simp
end Env
structure EStep(w w':World)(a:EAt)(E:En)(a':EAt)(E':En):Prop where
 env:Env w' a' E'
 same:a'.eb=a.eb∧a'.sb=a.sb∧a'.mb=a.mb∧a'.cb=a.cb
 mod:Mod (a.foot E.A) w w'
 foot:∀k,a'.foot E'.A k→a.foot E.A k∨w.heap.size≤k
namespace EStep
variable {w w' w'':World} {a a' a'':EAt} {E E' E'':En}
theorem refl(h:Env w a E):EStep w w a E a E:=⟨h,⟨rfl,rfl,rfl,rfl⟩,Mod.refl _ _,fun _ g=>.inl g⟩
theorem of_below(h:Env w a E)(hb:Below w.heap.size w w'):EStep w w' a E a E:=⟨h.below hb,⟨rfl,rfl,rfl,rfl⟩,Mod.of_below hb _,fun _ g=>.inl g⟩
theorem trans(h:EStep w w' a E a' E')(k:EStep w' w'' a' E' a'' E''):EStep w w'' a E a'' E'':=
 ⟨k.env,⟨k.same.1.trans h.same.1,k.same.2.1.trans h.same.2.1,k.same.2.2.1.trans h.same.2.2.1,k.same.2.2.2.trans h.same.2.2.2⟩,h.mod.trans k.mod fun i _ g=>h.foot i g,fun i g=>by
  rcases k.foot i g with q|q
  ·exact h.foot i q
  ·exact .inr (Nat.le_trans h.mod.size q)⟩
theorem below(h:EStep w w' a E a' E')(hb:Below w'.heap.size w' w''):EStep w w'' a E a' E':=h.trans (of_below h.env hb)
theorem setState(h:Env w a E)(k c y:Int):EStep w (((w.setCell ⟨a.eb,4,none⟩ (.int .u8 k)).setCell ⟨a.eb,5,none⟩ (.int .u32 c)).setCell ⟨a.eb,6,none⟩ (.int .i64 y)) a E a {E with kind:=k,code:=c,why:=y}:=by
 have hm:Mod (fun i=>i=a.eb) w (((w.setCell ⟨a.eb,4,none⟩ (.int .u8 k)).setCell ⟨a.eb,5,none⟩ (.int .u32 c)).setCell ⟨a.eb,6,none⟩ (.int .i64 y)):=Mod.setCell (F:=fun i=>i=a.eb) (Mod.setCell (F:=fun i=>i=a.eb) (Mod.setCell (F:=fun i=>i=a.eb) (Mod.refl _ _) ⟨a.eb,4,none⟩ (.inl rfl) _) ⟨a.eb,5,none⟩ (.inl rfl) _) ⟨a.eb,6,none⟩ (.inl rfl) _;have b1:=heap_setCell_same w a.eb 4 _ _ (.int .u8 k) h.blk;have b2:=heap_setCell_same _ a.eb 5 _ _ (.int .u32 c) b1;have b3:=heap_setCell_same _ a.eb 6 _ _ (.int .i64 y) b2;refine⟨{blk:=b3,cp:=h.cp.keep hm (fun g=>h.ec g.symm),sp:=h.sp.keep hm (fun i hi g=>h.es (g▸hi)),ls:=h.ls.keep hm (fun g hg=>(h.le g hg).1) (fun g hg e=>(h.le g hg).2.1 e),ec:=h.ec,es:=h.es,cs:=h.cs,le:=fun g hg=>⟨Nat.lt_of_lt_of_le (h.le g hg).1 hm.size,(h.le g hg).2⟩,ok:=⟨h.ok.up,h.ok.may,h.ok.has,h.ok.text⟩},⟨rfl,rfl,rfl,rfl⟩,hm.mono fun i _ g=>.inl g,fun i g=>.inl g⟩
theorem setText(h:Env w a E)(s:ByteArray)(hs:s.size≤4096):EStep w (w.setCell ⟨a.eb,7,none⟩ (.string s)) a E a {E with text:=s}:=by
 have hm:Mod (fun i=>i=a.eb) w (w.setCell ⟨a.eb,7,none⟩ (.string s)):=Mod.setCell (F:=fun i=>i=a.eb) (Mod.refl _ _) ⟨a.eb,7,none⟩ (.inl rfl) _;have b1:=heap_setCell_same w a.eb 7 _ _ (.string s) h.blk;refine⟨{blk:=b1,cp:=h.cp.keep hm (fun g=>h.ec g.symm),sp:=h.sp.keep hm (fun i hi g=>h.es (g▸hi)),ls:=h.ls.keep hm (fun g hg=>(h.le g hg).1) (fun g hg e=>(h.le g hg).2.1 e),ec:=h.ec,es:=h.es,cs:=h.cs,le:=fun g hg=>⟨Nat.lt_of_lt_of_le (h.le g hg).1 hm.size,(h.le g hg).2⟩,ok:=⟨h.ok.up,h.ok.may,h.ok.has,hs⟩},⟨rfl,rfl,rfl,rfl⟩,hm.mono fun i _ g=>.inl g,fun i g=>.inl g⟩
theorem cpu{r:List Int}{pc:Int}{A:List Pg}(h:Env w a E)(hc:Cpu 291 w' a.cb r pc)(hs:Spc w' a.sb a.mb A)(hk:Cp.blks A=Cp.blks E.A)(ha:A.map Pg.addr=E.A.map Pg.addr)(hm:Mod (fun k=>k=a.cb∨Sp.pgBlk E.A k) w w'):EStep w w' a E a {E with A:=A,r:=r,pc:=pc}:=by
 have hf:∀ {i},Spc.foot a.sb a.mb A i↔Spc.foot a.sb a.mb E.A i:=Cp.foot_iff hk;have hsome:∀x,(atAddr A x).isSome=(atAddr E.A x).isSome:=fun x=>by
  have e:∀B:List Pg,(atAddr B x).isSome=true↔x∈B.map Pg.addr:=fun B=>by
   rw[List.mem_map]
   constructor
   ·intro g;obtain⟨p,hp⟩:=Option.isSome_iff_exists.1 g;exact⟨p,(atAddr_mem hp).1,(atAddr_mem hp).2⟩
   ·rintro⟨p,hp,rfl⟩;cases hq:atAddr B p.addr with
    |some _=>rfl
    |none=>exact absurd rfl (atAddr_none hq p hp)
  rw[Bool.eq_iff_iff,e,e,ha]
 refine⟨{blk:=(hm.block _ (lQ h.blk) ?_).trans h.blk,cp:=hc,sp:=hs,ls:=h.ls.keep hm (fun g hg=>(h.le g hg).1) ?_,ec:=h.ec,es:=fun g=>h.es (hf.1 g),cs:=fun g=>h.cs (hf.1 g),le:=fun g hg=>⟨Nat.lt_of_lt_of_le (h.le g hg).1 hm.size,(h.le g hg).2.1,(h.le g hg).2.2.1,fun q=>(h.le g hg).2.2.2 (hf.1 q)⟩,ok:=⟨h.ok.up,h.ok.may,fun x hx=>(hsome x).trans (h.ok.has x hx),h.ok.text⟩},⟨rfl,rfl,rfl,rfl⟩,hm.mono fun i _ g=> ?_,fun i g=>.inl ?_⟩
 ·rintro(g|g)
  ·exact h.ec g
  ·exact h.es (.inr (.inr g))
 ·rintro g hg (q|q)
  ·exact(h.le g hg).2.2.1 q
  ·exact(h.le g hg).2.2.2 (.inr (.inr q))
 ·exact g.elim (fun q=>.inr (.inl q)) fun q=>.inr (.inr (.inl (.inr (.inr q))))
 ·rcases g with q|q|q|q
  ·exact .inl q
  ·exact .inr (.inl q)
  ·exact .inr (.inr (.inl (hf.1 q)))
  ·exact .inr (.inr (.inr q))
theorem regs{r:List Int}(h:Env w a E)(hc:Cpu 291 w' a.cb r E.pc)(hm:Mod (fun k=>k=a.cb) w w'):EStep w w' a E a {E with r:=r}:=
 cpu (A:=E.A) (pc:=E.pc) h hc (h.sp.keep hm fun k hk g=>h.cs (g▸hk)) rfl rfl (hm.mono fun _ _ g=>.inl g)
theorem space{A:List Pg}(h:Env w a E)(s:SStep w w' a.sb a.mb E.A A)(hs:∀x,x∈E.own→(atAddr A x).isSome=true):EStep w w' a E a {E with A:=A}:=by
 have hn:∀k,k<w.heap.size→¬Spc.foot a.sb a.mb E.A k→¬Spc.foot a.sb a.mb A k:=fun k hk g q=>(s.foot k q).elim g fun z=>by omega
 refine⟨{blk:=(s.mod.block _ (lQ h.blk) h.es).trans h.blk,cp:=h.cp.keep s.mod h.cs,sp:=s.sp,ls:=h.ls.keep s.mod (fun g hg=>(h.le g hg).1) (fun g hg=>(h.le g hg).2.2.2),ec:=h.ec,es:=hn _ (lQ h.blk) h.es,cs:=hn _ h.cp.lt h.cs,le:=fun g hg=>⟨Nat.lt_of_lt_of_le (h.le g hg).1 s.mod.size,(h.le g hg).2.1,(h.le g hg).2.2.1,hn _ (h.le g hg).1 (h.le g hg).2.2.2⟩,ok:=⟨h.ok.up,h.ok.may,hs,h.ok.text⟩},⟨rfl,rfl,rfl,rfl⟩,s.mod.mono fun i _ g=>.inr (.inr (.inl g)),fun i g=> ?_⟩;rcases g with q|q|q|q
 ·exact .inl (.inl q)
 ·exact .inl (.inr (.inl q))
 ·exact(s.foot i q).imp (fun z=>.inr (.inr (.inl z))) id
 ·exact .inl (.inr (.inr (.inr q)))
theorem list{v:Value}{own:List Int}(h:Env w a E)(hl:Sl.Lst w' v own)(hm:Mod (fun b=>a.lv.ownBlock=some b) w w')(hv:∀b,v.ownBlock=some b→b<w'.heap.size∧(a.lv.ownBlock=some b∨w.heap.size≤b))(hok:({E with own:=own}:En).Ok):
  EStep w (w'.setCell ⟨a.eb,1,none⟩ v) a E {a with lv:=v} {E with own:=own}:=by
 have hz:=hm.size;have he:w'.heap[a.eb]? =some (.cells (a.cells E) 165 (0,0)):=(hm.block _ (lQ h.blk) fun g=>(h.le _ g).2.1 rfl).trans h.blk;have b1:=heap_setCell_same w' a.eb 1 _ _ v he;have hm2:Mod (fun i=>i=a.eb∨a.lv.ownBlock=some i) w (w'.setCell ⟨a.eb,1,none⟩ v):=(hm.mono fun _ _ g=>.inr g).setCell ⟨a.eb,1,none⟩ (.inl (.inl rfl)) _;have hs2:(w'.setCell ⟨a.eb,1,none⟩ v).heap.size=w'.heap.size:=by simp[World.setCell]
 have hnew:∀ {g},v.ownBlock=some g→g≠a.eb∧g≠a.cb∧¬Spc.foot a.sb a.mb E.A g:=fun hg=>by
  rcases(hv _ hg).2 with q|q
  ·exact(h.le _ q).2
  ·refine⟨fun e=> ?_,fun e=> ?_,fun e=> ?_⟩
   ·have:=lQ h.blk;omega
   ·have:=h.cp.lt;omega
   ·have:=h.sp.lt e;omega
 refine⟨{blk:=b1,cp:=h.cp.keep hm2 ?_,sp:=h.sp.keep hm2 ?_,ls:=hl.frame fun g hg=>Below.heap_setCell _ _ _ _ (hnew hg).1,ec:=h.ec,es:=h.es,cs:=h.cs,le:=fun g hg=>⟨by rw[hs2];exact(hv g hg).1,hnew hg⟩,ok:=hok},⟨rfl,rfl,rfl,rfl⟩,hm2.mono fun i _ g=>g.elim .inl fun q=>.inr (.inr (.inr q)),fun i g=> ?_⟩
 ·rintro(g|g)
  ·exact h.ec g.symm
  ·exact(h.le _ g).2.2.1 rfl
 ·rintro k hk (g|g)
  ·exact h.es (g▸hk)
  ·exact(h.le _ g).2.2.2 hk
 ·rcases g with q|q|q|q
  ·exact .inl (.inl q)
  ·exact .inl (.inr (.inl q))
  ·exact .inl (.inr (.inr (.inl q)))
  ·exact(hv i q).2.imp (fun z=>.inr (.inr (.inr z))) id
end EStep
open Go.RowKit Word
namespace Ev
section
variable {w:World} {a:EAt} {E:En}
theorem cells(h:Env w a E):w.cell? ⟨a.eb,0,none⟩=some (.pointer (some ⟨a.sb,0,none⟩))∧w.cell? ⟨a.eb,1,none⟩=some a.lv∧w.cell? ⟨a.eb,2,none⟩=some (.pointer (some ⟨a.cb,0,none⟩))∧w.cell? ⟨a.eb,3,none⟩=some (.int .i64 E.num)∧w.cell? ⟨a.eb,4,none⟩=some (.int .u8 E.kind)∧w.cell? ⟨a.eb,5,none⟩=some (.int .u32 E.code)∧w.cell? ⟨a.eb,6,none⟩=some (.int .i64 E.why)∧w.cell? ⟨a.eb,7,none⟩=some (.string E.text):=
 ⟨h.cell 0 _ rfl,h.cell 1 _ rfl,h.cell 2 _ rfl,h.cell 3 _ rfl,h.cell 4 _ rfl,h.cell 5 _ rfl,h.cell 6 _ rfl,h.cell 7 _ rfl⟩
theorem ready(h:Env w a E):Calls Tryz.prog 186 #[.pointer (some ⟨a.eb,0,none⟩)] w fun e w'=>e=.returned (.int .i64 E.redE)∧w=w':=by
 obtain⟨_,_,_,_,c4,_,_,_⟩:=cells h;clear h
 by_cases hk:E.kind=2
 ·have e:E.redE=0:=by unfold En.redE;rw[if_neg (by omega)]
  rw[e];rw[hk] at c4;clear e;go_enter func186,ntmps186;go_wp2;go_ret;exact⟨rfl,rfl⟩
 ·have e:E.redE=3:=by unfold En.redE;rw[if_pos hk]
  rw[e];have hb:(E.kind != 2)=true:=bne_iff_ne.2 hk;go_enter func186,ntmps186;go_wp2;go_ret;exact⟨rfl,rfl⟩
theorem num(h:Env w a E):Calls Tryz.prog 119 #[.pointer (some ⟨a.eb,0,none⟩)] w fun e w'=>e=.returned (.int .i64 E.num)∧w=w':=by
 obtain⟨_,_,_,c3,_,_,_,_⟩:=cells h;clear h;go_enter func119,ntmps119;go_wp2;go_ret;exact⟨rfl,rfl⟩
theorem space(h:Env w a E):Calls Tryz.prog 18 #[.pointer (some ⟨a.eb,0,none⟩)] w fun e w'=>e=.returned (.pointer (some ⟨a.sb,0,none⟩))∧w=w':=by
 obtain⟨c0,_⟩:=cells h;clear h;go_enter func18,ntmps18;go_wp2;go_ret;exact⟨rfl,rfl⟩
theorem cpu(h:Env w a E):Calls Tryz.prog 77 #[.pointer (some ⟨a.eb,0,none⟩)] w fun e w'=>e=.returned (.pointer (some ⟨a.cb,0,none⟩))∧w=w':=by
 obtain⟨_,_,c2,_⟩:=cells h;clear h;go_enter func77,ntmps77;go_wp2;go_ret;exact⟨rfl,rfl⟩
theorem console(h:Env w a E):Calls Tryz.prog 68 #[.pointer (some ⟨a.eb,0,none⟩)] w fun e w'=>e=.returned (.string E.text)∧w=w':=by
 obtain⟨_,_,_,_,_,_,_,c7⟩:=cells h;clear h;go_enter func68,ntmps68;go_wp2;go_ret;exact⟨rfl,rfl⟩
theorem state(h:Env w a E):Calls Tryz.prog 14 #[.pointer (some ⟨a.eb,0,none⟩)] w fun e w'=>e=.returned (.agg #[.int .u8 E.kind,.int .u32 E.code,.int .i64 E.why])∧Below w.heap.size w w':=by
 have hb:Below w.heap.size w (w.alloc (.cells #[.int .u8 0,.int .u32 0,.int .i64 0] 58)):=Ba _;obtain⟨_,_,_,_,c4,c5,c6,_⟩:=cells (h.below hb);have HF:Hid (Below w.heap.size w (w.alloc (.cells #[.int .u8 E.kind,.int .u32 E.code,.int .i64 E.why] 58))):=Lh (Ba _);clear h hb;go_enter func14,ntmps14;go_wp2;refine bodyPost_ret (v:=.agg #[.int .u8 E.kind,.int .u32 E.code,.int .i64 E.why]) (by simp[results,Tryz.results14,go_sem, *]) rfl ?_;exact⟨rfl,HF.out⟩
theorem exit(h:Env w a E)(c:Int):Calls Tryz.prog 87 #[.pointer (some ⟨a.eb,0,none⟩),.int .u32 c] w fun e w'=>e=.returned (.int .i64 E.redE)∧EStep w w' a E a (E.exit c):=by
 have HR:=Lh (ready h)
 by_cases hk:E.kind=2
 ·have e:E.redE=0:=by unfold En.redE;rw[if_neg (by omega)]
  have e2:E.exit c= {E with kind:=3,code:=c,why:=0}:=by unfold En.exit;rw[if_neg (by omega)]
  have HS:=Lh (EStep.setState h 3 c 0);obtain⟨_,_,_,_,c4,c5,c6,_⟩:=cells h;have f4:=h.free 4;have f5:=h.free 5;have f6:=h.free 6;rw[e] at HR⊢;rw[e2];clear e e2 hk h;go_enter func87,ntmps87;go_wp2_with fail;refine HR.out.mono ?_;rintro e w2 ⟨rfl,rfl⟩;go_wp2;go_ret;exact⟨rfl,HS.out⟩
 ·have e:E.redE=3:=by unfold En.redE;rw[if_pos hk]
  have e2:E.exit c=E:=by unfold En.exit;rw[if_pos hk]
  have HS:=Lh (EStep.refl h);rw[e] at HR⊢;rw[e2];clear e e2 hk h;go_enter func87,ntmps87;go_wp2_with fail;refine HR.out.mono ?_;rintro e w2 ⟨rfl,rfl⟩;go_wp2;go_ret;exact⟨rfl,HS.out⟩
theorem may(h:Env w a E)(x:Int)(x0:0≤x)(x1:x≤4294967295):Calls Tryz.prog 241 #[.pointer (some ⟨a.eb,0,none⟩),.int .u32 x] w fun e w'=>e=.returned (.int .i64 (E.mayE x))∧Below w.heap.size w w':=by
 have HR:=Lh fun w' (hb:Below w.heap.size w w')=>ready (h.below hb)
 have HB:=Lh (Below.refl w.heap.size w)
 by_cases hk:E.kind=2
 ·have e:E.redE=0:=by unfold En.redE;rw[if_neg (by omega)]
  have e2:E.mayE x=if En.mayP x=false then 2 else 0:=by unfold En.mayE;rw[if_neg (by omega)]
  rw[e] at HR;rw[e2];clear e e2 hk h
  by_cases g1:x % 256=0
  ·by_cases g2:x<256
   ·have e:En.mayP x=false:=by unfold En.mayP;simp[g1];omega
    rw[if_pos e];clear e;go_enter func241,ntmps241;go_wp2_with fail;refine(HR.out _ HB.out).mono ?_;rintro e w2 ⟨rfl,rfl⟩;go_wp2;go_ret;exact⟨rfl,HB.out⟩
   ·by_cases g3:1048576≤x
    ·have e:En.mayP x=false:=by unfold En.mayP;simp[g1];omega
     rw[if_pos e];clear e;go_enter func241,ntmps241;go_wp2_with fail;refine(HR.out _ HB.out).mono ?_;rintro e w2 ⟨rfl,rfl⟩;go_wp2;go_ret;exact⟨rfl,HB.out⟩
    ·have e:¬En.mayP x=false:=by unfold En.mayP;simp[g1];omega
     rw[if_neg e];clear e;go_enter func241,ntmps241;go_wp2_with fail;refine(HR.out _ HB.out).mono ?_;rintro e w2 ⟨rfl,rfl⟩;go_wp2;go_ret;exact⟨rfl,HB.out⟩
  ·have e:En.mayP x=false:=by unfold En.mayP;simp[g1]
   rw[if_pos e];have g1b:(x % 256 != 0)=true:=bne_iff_ne.2 g1;clear e;go_enter func241,ntmps241;go_wp2_with fail;refine(HR.out _ HB.out).mono ?_;rintro e w2 ⟨rfl,rfl⟩;go_wp2;go_ret;exact⟨rfl,HB.out⟩
 ·have e:E.redE=3:=by unfold En.redE;rw[if_pos hk]
  have e2:E.mayE x=3:=by unfold En.mayE;rw[if_pos hk]
  rw[e] at HR;rw[e2];clear e e2 hk h;go_enter func241,ntmps241;go_wp2_with fail;refine(HR.out _ HB.out).mono ?_;rintro e w2 ⟨rfl,rfl⟩;go_wp2;go_ret;exact⟨rfl,HB.out⟩
end
end Ev
open Go.RowKit Word
namespace Ev
section
variable {w:World} {a:EAt} {E:En}
theorem reg_bad{cb:Nat}(w:World)(n:Int)(hn:n<0∨16≤n):Calls Tryz.prog 101 #[.pointer (some ⟨cb,0,none⟩),.int .i64 n] w fun e w'=>e=.returned (.tuple #[.int .u32 0,.int .i64 2])∧w=w':=by
 cases g0:decide (n<0) with
 |true=>
  go_enter func101,ntmps101;go_wp2;go_ret2;exact⟨rfl,rfl⟩
 |false=>
  have g1:decide ((16:Int)≤n)=true:=decide_eq_true (by have:=of_decide_eq_false g0;omega);go_enter func101,ntmps101;go_wp2;go_ret2;exact⟨rfl,rfl⟩
theorem own(h:Env w a E):Calls Tryz.prog 94 #[.pointer (some ⟨a.eb,0,none⟩)] w fun e w'=>∃v,e=.returned v∧Sl.Lst w' v E.own∧(∀b,v.ownBlock=some b→w.heap.size≤b)∧Below w.heap.size w w':=by
 obtain⟨_,c1,_⟩:=cells h;have HC:=Lh (Sl.clone h.ls h.ok.len);obtain⟨lv,hlv⟩:∃lv,a.lv=lv:=⟨_,rfl⟩;rw[hlv] at c1 HC;clear h hlv;go_enter func94,ntmps94;go_wp2_with fail;refine HC.out.mono ?_;rintro e w2 ⟨v,rfl,h1,h2,h3⟩;have HP:=Lh (⟨h1,h2,h3⟩:Sl.Lst w2 v E.own∧(∀b,v.ownBlock=some b→w.heap.size≤b)∧Below w.heap.size w w2);clear h1 h2 h3;go_wp2;go_ret;exact⟨v,rfl,HP.out⟩
theorem arg(h:Env w a E)(n:Int)(n0: -9223372036854775808≤n)(n1:n≤9223372036854775807):Calls Tryz.prog 22 #[.pointer (some ⟨a.eb,0,none⟩),.int .i64 n] w fun e w'=>e=.returned (.int .u32 (E.arg n))∧w=w':=by
 obtain⟨_,_,c2,_⟩:=cells h;have HR:Hid (Calls Tryz.prog 101 #[.pointer (some ⟨a.cb,0,none⟩),.int .i64 n] w fun e w'=>∃y,e=.returned (.tuple #[.int .u32 (E.arg n),.int .i64 y])∧w=w'):=by
  unfold En.arg
  by_cases g:0≤n∧n<16
  ·rw[if_pos g];obtain⟨m,rfl⟩:=Int.eq_ofNat_of_zero_le g.1;exact Lh ((Cp.reg_ok h.cp m (by omega)).mono fun e w' ⟨g1,g2⟩=>⟨0,g1,g2⟩)
  ·rw[if_neg g];exact Lh ((reg_bad w n (by omega)).mono fun e w' ⟨g1,g2⟩=>⟨2,g1,g2⟩)
 generalize E.arg n=v at*;clear h;go_enter func22,ntmps22;go_wp2_with fail;refine HR.out.mono ?_;rintro e w2 ⟨y,rfl,rfl⟩;go_wp2;go_ret;exact⟨rfl,rfl⟩
theorem answer(h:Env w a E)(v y:Int)(v0:0≤v)(v1:v≤4294967295)(y0:0≤y)(y1:y≤4294967295):Calls Tryz.prog 90 #[.pointer (some ⟨a.eb,0,none⟩),.int .u32 v,.int .u32 y] w fun e w'=>e=.returned (.int .i64 0)∧EStep w w' a E a (E.answer v y):=by
 have H:=Lh h;have hc:=Cp.setReg_ok h.cp 1 (by omega) v v0 v1;obtain⟨_,_,c2,_⟩:=cells h;have HC:=Lh hc;clear h hc;go_enter func90,ntmps90;go_wp2_with fail;refine HC.out.mono ?_;rintro e w2 ⟨rfl,hc2,hm2⟩;have hs2:=EStep.regs H.out hc2 hm2;have HS2:=Lh hs2;have HC2:=Lh (Cp.setReg_ok hs2.env.cp 2 (by omega) y y0 y1);obtain⟨_,_,d2,_⟩:=cells hs2.env;clear hc2 hm2 hs2;go_wp2_with fail;refine HC2.out.mono ?_;rintro e w3 ⟨rfl,hc3,hm3⟩;have HS3:=Lh (HS2.out.trans (EStep.regs HS2.out.env hc3 hm3));clear hc3 hm3;go_wp2;go_ret;exact⟨rfl,HS3.out⟩
theorem put(h:Env w a E)(s:ByteArray)(hs:s.size≤140737488355328):Calls Tryz.prog 135 #[.pointer (some ⟨a.eb,0,none⟩),.string s] w fun e w'=>e=.returned (.int .i64 (E.putE s))∧EStep w w' a E a (E.put s):=by
 have HR:=Lh (ready h);obtain⟨_,_,_,_,_,_,_,c7⟩:=cells h;have ht:=h.ok.text
 by_cases hk:E.kind=2
 ·have e:E.redE=0:=by unfold En.redE;rw[if_neg (by omega)]
  rw[e] at HR
  by_cases hl:4096<E.text.size+s.size
  ·have e2:E.putE s=4:=by unfold En.putE;rw[if_neg (by omega),if_pos hl]
   have e3:E.put s=E:=by unfold En.put;rw[e2,if_pos (by omega)]
   have HS:=Lh (EStep.refl h);rw[e2,e3];have hlb:(4096:Int)<E.text.size+s.size:=by omega
   clear e e2 e3 hk h;go_enter func135,ntmps135;go_wp2_with fail;refine HR.out.mono ?_;rintro e w2 ⟨rfl,rfl⟩;go_wp2;go_ret;exact⟨rfl,HS.out⟩
  ·have e2:E.putE s=0:=by unfold En.putE;rw[if_neg (by omega),if_neg hl]
   have e3:E.put s= {E with text:=E.text++s}:=by unfold En.put;rw[e2,if_neg (by omega)]
   have HS:=Lh (EStep.setText h (E.text++s) (by rw[ByteArray.size_append];omega));have f7:=h.free 7;rw[e2,e3];have hlb:¬(4096:Int)<E.text.size+s.size:=by omega
   clear e e2 e3 hk h;go_enter func135,ntmps135;go_wp2_with fail;refine HR.out.mono ?_;rintro e w2 ⟨rfl,rfl⟩;go_wp2;go_ret;exact⟨rfl,HS.out⟩
 ·have e:E.redE=3:=by unfold En.redE;rw[if_pos hk]
  have e2:E.putE s=3:=by unfold En.putE;rw[if_pos hk]
  have e3:E.put s=E:=by unfold En.put;rw[e2,if_pos (by omega)]
  have HS:=Lh (EStep.refl h);rw[e] at HR;rw[e2,e3];clear e e2 e3 hk h;go_enter func135,ntmps135;go_wp2_with fail;refine HR.out.mono ?_;rintro e w2 ⟨rfl,rfl⟩;go_wp2;go_ret;exact⟨rfl,HS.out⟩
end
end Ev
open Go.RowKit Word
theorem isSome_addr{B:List Pg}{x:Int}:(atAddr B x).isSome=true↔x∈B.map Pg.addr:=by
 rw[List.mem_map]
 constructor
 ·intro g;obtain⟨p,hp⟩:=Option.isSome_iff_exists.1 g;exact⟨p,(atAddr_mem hp).1,(atAddr_mem hp).2⟩
 ·rintro⟨p,hp,rfl⟩;cases hq:atAddr B p.addr with
  |some _=>rfl
  |none=>exact absurd rfl (atAddr_none hq p hp)
theorem En.mayP_iff{x:Int}:En.mayP x=true↔x % 256=0∧256≤x∧x<1048576:=by
 unfold En.mayP;simp[and_assoc]
theorem En.mayE_zero{E:En}{x:Int}(h:E.mayE x=0):E.kind=2∧En.mayP x=true:=by
 unfold En.mayE at h
 by_cases g:E.kind=2
 ·rw[if_neg (by omega)] at h;cases hm:En.mayP x with
  |true=>exact⟨g,rfl⟩
  |false=>rw[hm,if_pos rfl] at h;omega
 ·rw[if_pos g] at h;omega
theorem En.Ok.map{E:En}(h:E.Ok){x:Int}(blk:Nat)(hm:Sp.mapE E.A x 3=0):∀y,y∈E.own→(atAddr (Sp.mapA E.A x blk 3) y).isSome=true:=fun y hy=>by
 have:=isSome_addr.1 (h.has y hy);rw[List.mem_map] at this;obtain⟨p,hp,hpy⟩:=this;refine isSome_addr.2 (List.mem_map.2 ⟨p, ?_,hpy⟩);unfold Sp.mapA;rw[if_pos hm];exact mem_insPg.2 (.inr hp)
theorem En.Ok.page{E:En}(h:E.Ok){x:Int}(blk:Nat)(hp:En.mayP x=true)(hm:Sp.mapE E.A x 3=0):x∉E.own∧({E with A:=Sp.mapA E.A x blk 3,own:=En.ins x E.own}:En).Ok:=by
 have hx:=En.mayP_iff.1 hp;have hn:x∉E.own:=fun g=>by
  have hs:=h.has x g;unfold Sp.mapE at hm
  by_cases q:Sp.mayB x=false∨(7:Int)<3
  ·rw[if_pos q] at hm;omega
  ·rw[if_neg q] at hm;have:pageAt E.A x=atAddr E.A x:=by unfold pageAt;rw[hx.1,Int.sub_zero]
   rw[this,if_pos hs] at hm;omega
 refine⟨hn,En.up_ins h.up hn,fun y hy=> ?_,fun y hy=> ?_,h.text⟩
 ·rcases En.mem_ins.1 hy with rfl|g
  ·exact hx
  ·exact h.may y g
 ·rcases En.mem_ins.1 hy with rfl|g
  ·refine isSome_addr.2 (List.mem_map.2 ⟨pgNew y blk 3, ?_,rfl⟩);unfold Sp.mapA;rw[if_pos hm];exact mem_insPg.2 (.inl rfl)
  ·exact h.map blk hm y g
theorem En.Ok.less{E:En}(h:E.Ok)(x:Int):({E with own:=E.own.filter (fun y=>y != x)}:En).Ok:=
 ⟨h.up.filter _,fun y hy=>h.may y (List.mem_filter.1 hy).1,fun y hy=>h.has y (List.mem_filter.1 hy).1,h.text⟩
theorem En.Ok.unmap{E:En}(h:E.Ok)(x:Int):∀y,y∈E.own.filter (fun y=>y != x)→(atAddr (Sp.unmapA E.A x) y).isSome=true:=fun y hy=>by
 obtain⟨h1,h2⟩:=List.mem_filter.1 hy;have:=isSome_addr.1 (h.has y h1);rw[List.mem_map] at this;obtain⟨p,hp,hpy⟩:=this;refine isSome_addr.2 (List.mem_map.2 ⟨p, ?_,hpy⟩);unfold Sp.unmapA
 split
 ·exact mem_delPg.2 ⟨hp,by rw[hpy];simpa using h2⟩
 ·exact hp
namespace Ev
section
variable {w:World} {a:EAt} {E:En}
theorem page(h:Env w a E)(x:Int)(x0:0≤x)(x1:x≤4294967295):Calls Tryz.prog 134 #[.pointer (some ⟨a.eb,0,none⟩),.int .u32 x] w fun e w'=>∃blk lv,e=.returned (.int .i64 (E.pageE x))∧EStep w w' a E {a with lv:=lv} (E.page x blk):=by
 have HM:=Lh (may h x x0 x1)
 by_cases hm:E.mayE x=0
 ·obtain⟨hk,hp⟩:=En.mayE_zero hm;have hpe:E.pageE x=Sp.mapE E.A x 3:=by unfold En.pageE;rw[if_neg (by omega)]
  rw[hm] at HM;have HMap:Hid (∀V,Below w.heap.size w V→Calls Tryz.prog 131 #[.pointer (some ⟨a.sb,0,none⟩),.int .u32 x,.int .u8 3] V fun e w'=>∃blk,e=.returned (.int .i64 (Sp.mapE E.A x 3))∧SStep V w' a.sb a.mb E.A (Sp.mapA E.A x blk 3)):=Lh fun V hV=>Sp.s_map (h.below hV).sp x 3 x0 x1 (by omega) (by omega)
  have HV:=Lh fun V (hV:Below w.heap.size w V)=>EStep.of_below h hV
  by_cases he:Sp.mapE E.A x 3=0
  ·have e2:∀blk,E.page x blk= {E with A:=Sp.mapA E.A x blk 3,own:=En.ins x E.own}:=fun blk=>by unfold En.page;rw[hpe,if_neg (by omega)]
   have HO:Hid (∀blk,x∉E.own∧({E with A:=Sp.mapA E.A x blk 3,own:=En.ins x E.own}:En).Ok):=Lh fun blk=>h.ok.page blk hp he
   have HH:=Lh fun blk=>h.ok.map blk he
   have HOk:=Lh h.ok;simp only[e2];rw[hpe];rw[he] at HMap⊢;clear e2 hpe he hp hk hm h;go_enter func134,ntmps134;go_wp2_with fail;refine HM.out.mono ?_;rintro e w2 ⟨rfl,hb2⟩;have HS2:=Lh (HV.out w2 hb2);obtain⟨c0,_⟩:=cells (HV.out w2 hb2).env;have HMp:=Lh (HMap.out w2 hb2);clear hb2 HM HMap HV;go_wp2_with fail;refine HMp.out.mono ?_;rintro e w3 ⟨blk,rfl,hs3⟩;have hE3:=EStep.space HS2.out.env hs3 (HH.out blk);have HS3:=Lh (HS2.out.trans hE3);obtain⟨_,c1,_⟩:=cells hE3.env;have hls:=hE3.env.ls;simp only at c1 hls;obtain⟨ao,cap,hlv,hws⟩:=hls.words HOk.out.len;have HLs:=Lh hls;have HBS:=Lh (Sl.bsearch (cap:=cap) hws x HOk.out.up HOk.out.len);have HLe:=Lh hE3.env.le;have HLv:=Lh hlv;rw[hlv] at c1;clear hE3 hs3 hls hlv hws c0 HMp HH HS2;go_wp2_with fail;refine HBS.out.mono ?_;rintro e w4 ⟨k,hpl,rfl,rfl⟩;have HPl:=Lh hpl;clear HBS hpl;generalize decide (E.own[k]? =some x)=bb at*;have hbb:Below w4.heap.size w4 (w4.alloc (.cells #[.int .u32 x] 22)):=Ba _;have hl5:Sl.Lst (w4.alloc (.cells #[.int .u32 x] 22)) a.lv E.own:=HLs.out.frame fun g hg=>hbb.block _ (HLe.out g hg).1
   have hin:=Sl.insert hl5 x k HPl.out.le HOk.out.len w4.heap.size (heap_alloc_new w4 _) (fun e=>by have hle:=HLe.out;exact absurd (hle _ e).1 (Nat.lt_irrefl _));rw[HLv.out] at hin;have HIn:=Lh hin;have HB5:=Lh hbb;clear hin hl5 hbb;go_wp2_with fail;refine HIn.out.mono ?_;rintro e w6 ⟨v6,rfl,hl6,hm6,hv6⟩;rw[←HLv.out] at hm6 hv6;have hm46:Mod (fun b=>a.lv.ownBlock=some b) w4 w6:=(Mod.of_below HB5.out _).same hm6;rw[En.ins_place HPl.out (HO.out blk).1] at hl6;obtain⟨a6,cap6,rfl⟩:=SlV.form hl6;have hst:=EStep.list HS3.out.env (own:=En.ins x E.own) hl6 hm46 (fun b hb=>by
    refine⟨?_,(hv6 b hb).imp id fun g=>Nat.le_trans HB5.out.size g⟩;obtain⟨g,q1,q2⟩:=SlV.lt hl6 (by
     have:x∈En.ins x E.own:=En.mem_ins.2 (.inl rfl);exact List.length_pos_of_mem this)
    rw[q1] at hb
    injection hb with hb
    omega) (HO.out blk).2
   have he6:=(hm46.block _ (lQ HS3.out.env.blk) (fun g=>(HLe.out _ g).2.1 rfl)).trans HS3.out.env.blk;have c16:w6.cell? ⟨a.eb,1,none⟩=some a.lv:=by
    unfold World.cell?;rw[he6];rfl
   have f16:w6.frozen? ⟨a.eb,1,none⟩=false:=by
    unfold World.frozen?;rw[he6]
    simp
   clear he6;have HFin:=Lh (HS3.out.trans hst);clear hm6 hv6 hm46 hl6 hst HIn;go_wp2;go_ret;exact⟨blk,_,rfl,HFin.out⟩
  ·have e2:∀blk,E.page x blk=E:=fun blk=>by unfold En.page;rw[hpe,if_pos he]
   have HSp:Hid (∀blk,Sp.mapA E.A x blk 3=E.A):=Lh fun blk=>by unfold Sp.mapA;rw[if_neg he]
   have HOk:=Lh h.ok;simp only[e2];rw[hpe];generalize Sp.mapE E.A x 3=r at*;have heb:(r != 0)=true:=bne_iff_ne.2 he;clear e2 hpe hp hk hm h;go_enter func134,ntmps134;go_wp2_with fail;refine HM.out.mono ?_;rintro e w2 ⟨rfl,hb2⟩;have HS2:=Lh (HV.out w2 hb2);obtain⟨c0,_⟩:=cells (HV.out w2 hb2).env;have HMp:=Lh (HMap.out w2 hb2);clear hb2 HM HMap HV;go_wp2_with fail;refine HMp.out.mono ?_;rintro e w3 ⟨blk,rfl,hs3⟩;rw[HSp.out blk] at hs3;have HS3:=Lh (HS2.out.trans (EStep.space HS2.out.env hs3 HOk.out.has));clear hs3;go_wp2;go_ret;exact⟨0,a.lv,rfl,HS3.out⟩
 ·have hpe:E.pageE x=E.mayE x:=by unfold En.pageE;rw[if_pos hm]
  have e2:∀blk,E.page x blk=E:=fun blk=>by unfold En.page;rw[hpe,if_pos hm]
  have HV:=Lh fun V (hV:Below w.heap.size w V)=>EStep.of_below h hV
  simp only[e2];rw[hpe];generalize E.mayE x=r at*;have heb:(r != 0)=true:=bne_iff_ne.2 hm;clear e2 hpe h;go_enter func134,ntmps134;go_wp2_with fail;refine HM.out.mono ?_;rintro e w2 ⟨rfl,hb2⟩;have HS2:=Lh (HV.out w2 hb2);clear hb2;go_wp2;go_ret;exact⟨0,a.lv,rfl,HS2.out⟩
theorem drop(h:Env w a E)(x:Int)(x0:0≤x)(x1:x≤4294967295):Calls Tryz.prog 276 #[.pointer (some ⟨a.eb,0,none⟩),.int .u32 x] w fun e w'=>∃lv,e=.returned (.int .i64 (E.dropE x))∧EStep w w' a E {a with lv:=lv} (E.drop x):=by
 have HM:=Lh (may h x x0 x1);have HV:=Lh fun V (hV:Below w.heap.size w V)=>EStep.of_below h hV
 have HOk:=Lh h.ok
 by_cases hm:E.mayE x=0
 ·rw[hm] at HM
  by_cases he:x∈E.own
  ·have hpe:E.dropE x=Sp.unmapE E.A x:=by unfold En.dropE;rw[if_neg (by omega),if_pos he]
   have e2:E.drop x= {E with A:=Sp.unmapA E.A x,own:=E.own.filter (fun y=>y != x)}:=by unfold En.drop;rw[if_neg (by omega),if_pos he]
   have Hx:=Lh he;rw[hpe,e2];clear e2 hpe he hm h;go_enter func276,ntmps276;go_wp2_with fail;refine HM.out.mono ?_;rintro e w2 ⟨rfl,hb2⟩;have HS2:=Lh (HV.out w2 hb2);obtain⟨_,c1,_⟩:=cells (HV.out w2 hb2).env;have hls:=(HV.out w2 hb2).env.ls;obtain⟨ao,cap,hlv,hws⟩:=hls.words HOk.out.len;have HLs:=Lh hls;have HBS:=Lh (Sl.bsearch (cap:=cap) hws x HOk.out.up HOk.out.len);have HLv:=Lh hlv;rw[hlv] at c1;clear hb2 HM HV hls hlv hws;go_wp2_with fail;refine HBS.out.mono ?_;rintro e w4 ⟨k,hpl,rfl,rfl⟩;have hkx:=(En.place_mem HOk.out.up hpl).1 Hx.out;rw[decide_eq_true hkx];have hkl:k<E.own.length:=(List.getElem?_eq_some_iff.1 hkx).1;have hde:=Sl.delete HLs.out k (k+1) rfl hkl HOk.out.len;rw[HLv.out,show((k+1:Nat):Int)=(k:Int)+1 from rfl] at hde;have HDe:=Lh hde;have HEr:=Lh (En.erase_place HOk.out.up hkx);have hkn:(k:Int)+1≤2000000:=by have:=HOk.out.len;omega
   clear HBS hpl hkx hde hkl;go_wp2_with fail;refine HDe.out.mono ?_;rintro e w6 ⟨v6,rfl,hl6,hv6,hm6⟩;rw[←HLv.out] at hm6 hv6;rw[HEr.out] at hl6;obtain⟨a6,cap6,rfl⟩:=SlV.form hl6;have hst:=EStep.list HS2.out.env (own:=E.own.filter (fun y=>y != x)) hl6 hm6 (fun b hb=>by
    rw[hv6] at hb;exact⟨Nat.lt_of_lt_of_le (HS2.out.env.le b hb).1 hm6.size,.inl hb⟩) (HOk.out.less x)
   have he6:=(hm6.block _ (lQ HS2.out.env.blk) (fun g=>(HS2.out.env.le _ g).2.1 rfl)).trans HS2.out.env.blk;have c16:w6.cell? ⟨a.eb,1,none⟩=some a.lv:=by
    unfold World.cell?;rw[he6];rfl
   have f16:w6.frozen? ⟨a.eb,1,none⟩=false:=by
    unfold World.frozen?;rw[he6]
    simp
   have HS6:=Lh (HS2.out.trans hst);obtain⟨c0,_⟩:=cells hst.env;simp only at c0;have HUn:=Lh (Sp.s_unmap hst.env.sp x x0 x1);clear he6 hm6 hv6 hl6 hst HDe HS2;go_wp2_with fail;refine HUn.out.mono ?_;rintro e w7 ⟨rfl,hs7⟩;have HFin:=Lh (HS6.out.trans (EStep.space HS6.out.env hs7 (HOk.out.unmap x)));clear hs7 HUn HS6;go_wp2;go_ret;exact⟨_,rfl,HFin.out⟩
  ·have hpe:E.dropE x=3:=by unfold En.dropE;rw[if_neg (by omega),if_neg he]
   have e2:E.drop x=E:=by unfold En.drop;rw[if_neg (by omega),if_neg he]
   have Hx:=Lh he;rw[hpe,e2];clear e2 hpe he hm h;go_enter func276,ntmps276;go_wp2_with fail;refine HM.out.mono ?_;rintro e w2 ⟨rfl,hb2⟩;have HS2:=Lh (HV.out w2 hb2);obtain⟨_,c1,_⟩:=cells (HV.out w2 hb2).env;have hls:=(HV.out w2 hb2).env.ls;obtain⟨ao,cap,hlv,hws⟩:=hls.words HOk.out.len;have HBS:=Lh (Sl.bsearch (cap:=cap) hws x HOk.out.up HOk.out.len);rw[hlv] at c1;clear hb2 HM HV hls hlv hws;go_wp2_with fail;refine HBS.out.mono ?_;rintro e w4 ⟨k,hpl,rfl,rfl⟩;have hkx:¬E.own[k]? =some x:=fun g=>Hx.out ((En.place_mem HOk.out.up hpl).2 g)
   rw[decide_eq_false hkx];clear HBS hpl hkx;go_wp2;go_ret;exact⟨a.lv,rfl,HS2.out⟩
 ·have hpe:E.dropE x=E.mayE x:=by unfold En.dropE;rw[if_pos hm]
  have e2:E.drop x=E:=by unfold En.drop;rw[if_pos hm]
  rw[hpe,e2];generalize E.mayE x=r at*;have heb:(r != 0)=true:=bne_iff_ne.2 hm;clear e2 hpe h;go_enter func276,ntmps276;go_wp2_with fail;refine HM.out.mono ?_;rintro e w2 ⟨rfl,hb2⟩;have HS2:=Lh (HV.out w2 hb2);clear hb2;go_wp2;go_ret;exact⟨a.lv,rfl,HS2.out⟩
end
end Ev
open Go.RowKit Word
def En.new(num pc:Int)(A:List Pg):En:=⟨num,2,0,0,ByteArray.empty,[],A,List.replicate 16 0,pc⟩
def NewPost(w:World)(A:List Pg)(num pc:Int)(e:Ending)(w':World):Prop:=
 ∃a C,e=.returned (.tuple #[.pointer (some ⟨a.eb,0,none⟩),.int .i64 0])∧Env w' a (En.new num pc C)∧cores C=cores A∧(∀k,a.foot C k→w.heap.size≤k)∧Below w.heap.size w w'
namespace Ev
section
variable {w:World} {sb mb:Nat} {A:List Pg}
theorem new(h:Spc w sb mb A)(num pc:Int)(n0:1≤num)(n1:num≤8)(p0:0≤pc)(p1:pc≤4294967295):Calls Tryz.prog 75 #[.int .i64 num,.pointer (some ⟨sb,0,none⟩),.int .u32 pc] w (NewPost w A num pc):=by
 have HC:=Lh (Sp.copy h);have g1:¬num<1:=by omega
 have g2:¬8<num:=by omega
 have HFin:Hid (∀so mo C w2 w3,Spc w2 so mo C→cores C=cores A→(∀k,Spc.foot so mo C k→w.heap.size≤k)→Below w.heap.size w w2→Cpu 291 w3 w2.heap.size (List.replicate 16 0) pc→Below w2.heap.size w2 w3→
   NewPost w A num pc (.returned (.tuple #[.pointer (some ⟨w3.heap.size,0,none⟩),.int .i64 0])) (w3.alloc (.cells #[.pointer (some ⟨so,0,none⟩),.slice none 0 0,.pointer (some ⟨w2.heap.size,0,none⟩),.int .i64 num,.int .u8 2,.int .u32 0,.int .i64 0,.string ByteArray.empty] 165))):=Lh fun so mo C w2 w3 hs hc hf hb hp hb3=>by
  have hz:=hb.size;have hz3:=hb3.size;have hpl:=hp.lt;have hba:Below w3.heap.size w3 (w3.alloc (.cells #[.pointer (some ⟨so,0,none⟩),.slice none 0 0,.pointer (some ⟨w2.heap.size,0,none⟩),.int .i64 num,.int .u8 2,.int .u32 0,.int .i64 0,.string ByteArray.empty] 165)):=Ba _;refine⟨⟨w3.heap.size,so,mo,w2.heap.size,.slice none 0 0⟩,C,rfl, ?_,hc,fun k hk=> ?_, ?_⟩
  ·exact {blk:=heap_alloc_new w3 _,cp:=hp.below hba,sp:=(hs.below hb3 fun k hk=>hs.lt hk).below hba fun k hk=>Nat.lt_of_lt_of_le (hs.lt hk) hz3,ls:=Sl.Lst.nil _,ec:=by show w3.heap.size≠w2.heap.size;omega,es:=fun g=>absurd (hs.lt g) (Nat.not_lt.2 hz3),cs:=fun g=>Nat.lt_irrefl _ (hs.lt g),le:=fun g hg=>(nomatch hg),ok:=⟨List.Pairwise.nil,fun x hx=>(nomatch hx),fun x hx=>(nomatch hx),Nat.zero_le _⟩}
  ·rcases hk with g|g|g|g
   ·rw[g];show w.heap.size≤w3.heap.size;omega
   ·rw[g];exact hz
   ·exact hf k g
   ·cases g
  ·exact(hb.trans (hb3.mono hz)).alloc (Nat.le_trans hz hz3) _
 generalize NewPost w A num pc=PQ at*;clear h;go_enter func75,ntmps75;go_wp2_with fail;refine HC.out.mono ?_;rintro e w2 ⟨so,mo,C,rfl,hs,hc,hf,hb⟩;have HS:=Lh (⟨hs,hc,hf,hb⟩:Spc w2 so mo C∧cores C=cores A∧(∀k,Spc.foot so mo C k→w.heap.size≤k)∧Below w.heap.size w w2);clear hs hc hf hb;go_wp2_with fail;refine(Cp.new pc p0 p1 w2).mono ?_;rintro e w3 ⟨rfl,hp,hb3⟩;have HP:=Lh (⟨hp,hb3⟩:_∧_);clear hp hb3;go_wp2;exact HFin.out so mo C w2 w3 HS.out.1 HS.out.2.1 HS.out.2.2.1 HS.out.2.2.2 HP.out.1 HP.out.2
end
end Ev
section
variable {P:Program} {ops:Array Oper} {Q:Exit→Act→World→Prop} {md:Region.Mode} {S:World→Prop} {last:Nat}
def waitsFor(md:Region.Mode)(ops:Array Oper)(last i:Nat):Bool:=match ops[last]? with|some o=>o.after.any fun e=>Region.binds md e&&e.on == i|none=>false
def AnyE(P:Program)(md:Region.Mode)(ops:Array Oper)(Q:Exit→Act→World→Prop)(S:World→Prop)(last:Nat):Nat→Array Bool→Act→World→Prop
 |0,listed,a,w=>Region.ready md ops listed=[]∧Q .normal a w
 |fuel+1,listed,a,w=>
  (Region.ready md ops listed=[]→Q .normal a w)∧
  ∀i∈Region.ready md ops listed,wpOp P ops Q i (fun a' w'=>(i≠last→S w')∧AnyE P md ops Q S last fuel (listed.setIfInBounds i true) a' w') a w
theorem any_of_E:∀(fuel:Nat) (listed:Array Bool) (a:Act) (w:World),AnyE P md ops Q S last fuel listed a w→wpAny P md ops Q fuel listed a w
 |0,_,_,_,h=>h
 |fuel+1,_,_,_,h=>⟨h.1,fun i hi=>wpOp_mono (fun a' w' h'=>any_of_E fuel _ a' w' h'.2) (h.2 i hi)⟩
theorem last_waits{i:Nat}(hw:waitsFor md ops last i=true){listed:Array Bool}(hi:i∈Region.ready md ops listed){j:Nat}(hj:j∈Region.ready md ops listed):j≠last:=by
 rintro rfl;obtain⟨_,oj,hoj,hall⟩:=mem_ready.1 hj;unfold waitsFor at hw;rw[hoj] at hw;simp only[Array.any_eq_true'] at hw;obtain⟨e,he,hb⟩:=hw;simp only[Bool.and_eq_true,beq_iff_eq] at hb;have h1:=hall e he hb.1;have h0:=(mem_ready.1 hi).1;rw[hb.2] at h1;rcases Nat.lt_or_ge i listed.size with h'|h'
 ·simp[h'] at h0 h1;rw[h0] at h1;cases h1
 ·simp[Array.getElem?_eq_none h'] at h1
theorem E_first{i:Nat}{oi:Oper}{v:Value}(hi:ops[i]? =some oi)(hsel:∀(j:Nat) (o:Oper) cs b,ops[j]? =some o→o.op≠ .select cs b)
  (hQ:∀c a w,Q (.panic c) (a.put oi.dst v) w→Q (.panic c) a w) (hwt:waitsFor md ops last i=true):
  ∀(fuel:Nat) (listed:Array Bool) (a:Act) (w:World),
   (∀j oj,ops[j]? =some oj→j≠i→listed.getD j true=false→(∀e∈oj.after,Region.binds md e=true→e.on≠i)→oi.apart ops oj=true)→
   i∈Region.ready md ops listed→YieldsIf P ops S oi v a→S w→
   AnyE P md ops Q S last fuel (listed.setIfInBounds i true) (a.put oi.dst v) w→AnyE P md ops Q S last (fuel+1) listed a w:=by
 intro fuel
 induction fuel with
 |zero=>
  intro listed a w _ hr hy hS H;refine⟨fun h=>(by rw[h] at hr;cases hr),fun j hj=> ?_⟩
  by_cases hji:j=i
  ·subst hji;exact hy.wpOp hi hS ⟨fun _=>hS,H⟩
  ·have:=ready_mono hj hji;rw[H.1] at this;cases this
 |succ fuel ih=>
  intro listed a w hfree hr hy hS H;refine⟨fun h=>(by rw[h] at hr;cases hr),fun j hj=> ?_⟩
  by_cases hji:j=i
  ·subst hji;exact hy.wpOp hi hS ⟨fun _=>hS,H⟩
  ·have hjl:=last_waits hwt hr hj;have h1:=H.2 j (ready_mono hj hji);obtain⟨hjun,oj,hoj,hall⟩:=mem_ready.1 hj;have hnot:∀e∈oj.after,Region.binds md e=true→e.on≠i:=fun e he hb heq=>by
    have h1:=hall e he hb;have h0:=(mem_ready.1 hr).1;rw[heq] at h1;rcases Nat.lt_or_ge i listed.size with h'|h'
    ·simp[h'] at h0 h1;rw[h0] at h1;cases h1
    ·simp[Array.getElem?_eq_none h'] at h1
   have h2:=wpOp_putIf hoj (hfree j oj hoj hji hjun hnot) (fun cs b=>hsel i oi cs b hi) (fun cs b=>hsel j oj cs b hoj) hQ hy h1;have hfree':∀k ok,ops[k]? =some ok→k≠i→(listed.setIfInBounds j true).getD k true=false→
     (∀e∈ok.after,Region.binds md e=true→e.on≠i)→oi.apart ops ok=true:=fun k ok hk hki hun hno=>by
    refine hfree k ok hk hki ?_ hno
    by_cases hjk:j=k
    ·subst hjk;exact hjun
    ·rw[getD_set_ne true hjk] at hun;exact hun
   refine wpOp_mono (fun a' w' h3=>⟨h3.2.1,ih (listed.setIfInBounds j true) a' w' hfree' (ready_mono hr (Ne.symm hji)) h3.1 (h3.2.1 hjl) ?_⟩) h2;rw[Array.setIfInBounds_comm _ _ hji];exact h3.2.2
theorem E_take{i:Nat}{oi:Oper}{v:Value}{fuel:Nat}{listed:Array Bool}{a:Act}{w:World}(hi:ops[i]? =some oi)(hwt:waitsFor md ops last i=true)
  (hs:Region.noSelect ops=true) (hf:Region.free md ops listed i=true) (hr:(Region.ready md ops listed).contains i=true)
  (hQ:∀c a w,Q (.panic c) (a.put oi.dst v) w→Q (.panic c) a w) (hy:YieldsIf P ops S oi v a) (hS:S w)
  (h:AnyE P md ops Q S last fuel (listed.setIfInBounds i true) (a.put oi.dst v) w):AnyE P md ops Q S last (fuel+1) listed a w:=
 E_first hi (Region.noSelect_spec hs) hQ hwt fuel listed a w (Region.free_spec hi hf) (by simpa using hr) hy hS h
theorem E_step{i:Nat}{o:Oper}{fuel:Nat}{listed:Array Bool}{a:Act}{w:World}(hr:Region.ready md ops listed=[i])(ho:ops[i]? =some o)
  (h:∀K':Act→World→Prop,Shut (∀a w,(i≠last→S w)→((i≠last→S w)→AnyE P md ops Q S last fuel (listed.setIfInBounds i true) a w)→K' a w)→if Region.wanted o (yielded ops a.tmps)=true then Oper.wp P o a w K' Q else K' (a.put o.dst undef) w):
  AnyE P md ops Q S last (fuel+1) listed a w:=by
 refine⟨fun h0=>(by rw[h0] at hr;cases hr),fun j hj=> ?_⟩;rw[hr,List.mem_singleton] at hj;subst hj;exact wpOp_step ho (fun K' hK=>h K' (fun a w hS hW=>hK a w ⟨hS,hW hS⟩))
theorem E_done{listed:Array Bool}{a:Act}{w:World}(hr:Region.ready md ops listed=[])(h:Q .normal a w):∀fuel,AnyE P md ops Q S last fuel listed a w
 |0=>⟨hr,h⟩
 |_+1=>⟨fun _=>h,by rw[hr];simp⟩
theorem wp_region_E{id:Nat}{a:Act}{w:World}(S:World→Prop)(last:Nat)(hm:P.follows .mixedOrders=true)
  (h:AnyE P .any ops Q S last ops.size (Array.replicate ops.size false) a w.drew):(Code.region id ops true).wp P Q a w:=
 wp_region_any hm (any_of_E _ _ _ _ h)
end
section
variable {P:Program} {Q:Exit→Act→World→Prop} {md:Region.Mode} {S:World→Prop}
theorem T{l:List Oper}{oi:Oper}{v:Value}{fuel:Nat}{listed:Array Bool}{a a':Act}{w:World}(i:Nat)(hS:S w)
  (h:wpAnyH P md l.toArray Q S fuel (listed.setIfInBounds i true) a' w)
  (hi:l[i]? =some oi:=by rfl) (hs:Region.noSelect l.toArray=true:=by kernel_rfl) (hf:Region.free md l.toArray listed i=true:=by kernel_rfl) (hr:(Region.ready md l.toArray listed).contains i=true:=by kernel_rfl)
  (hw:Region.wanted oi (yielded l.toArray a.tmps)=true:=by rfl)
  (hy:∀W,S W→(execOp a.eval oi).run P W=.ok (.value v) W:=by intro W hW;(repeat (obtain⟨_,hW⟩:=hW));go_simp;try with_reducible rfl)
  (hQ:∀c a w,Q (.panic c) (a.put oi.dst v) w→Q (.panic c) a w:=by exact fun _ _ _ h=>h)
  (ha:a.put oi.dst v=a':=by simp only[Act.put,Za,Zb,Zc,Zd,Ze,Zf];rfl):wpAnyH P md l.toArray Q S (fuel+1) listed a w:=by
 subst ha;exact wpAnyH_take (by rw[List.getElem?_toArray];exact hi) hs hf hr hQ (Or.inl ⟨hw,hy⟩) hS h
theorem U{l:List Oper}{o:Oper}{fuel:Nat}{listed:Array Bool}{a:Act}{w:World}(i:Nat)
  (h:∀K':Act→World→Prop,Shut (∀a w,S w→(S w→wpAnyH P md l.toArray Q S fuel (listed.setIfInBounds i true) a w)→K' a w)→if Region.wanted o (yielded l.toArray a.tmps)=true then Oper.wp P o a w K' Q else K' (a.put o.dst undef) w)
  (hr:Region.ready md l.toArray listed=[i]:=by kernel_rfl) (ho:l[i]? =some o:=by rfl):
  wpAnyH P md l.toArray Q S (fuel+1) listed a w:=
 wpAnyH_ready hr (by simp) (AllReadyH.cons (by rw[List.getElem?_toArray];exact ho) h AllReadyH.nil)
theorem V{l:List Oper}{fuel:Nat}{listed:Array Bool}{a a':Act}{w:World}{K':Act→World→Prop}(hK:Shut (∀a w,S w→(S w→wpAnyH P md l.toArray Q S fuel listed a w)→K' a w))(hS:S w)
  (h:wpAnyH P md l.toArray Q S fuel listed a' w) (ha:a=a':=by first|(simp only[Act.put,Za,Zb,Zc,Zd,Ze,Zf];rfl)|rfl):K' a w:=by
 subst ha;exact hK.out _ _ hS fun _=>h
theorem B{l:List Oper}{id:Nat}{a:Act}{w:World}(S:World→Prop)(hS:S w.drew)
  (h:∀w',w'=w.drew→S w'→wpAnyH P .any l.toArray Q S l.toArray.size (Array.replicate l.toArray.size false) a w') (hm:P.follows .mixedOrders=true:=by kernel_rfl):(Code.region id l.toArray true).wp P Q a w:=
 wp_region_held hm (h _ rfl hS)
end
section
variable {P:Program} {Q:Exit→Act→World→Prop} {md:Region.Mode} {S:World→Prop} {last:Nat}
theorem LT{l:List Oper}{oi:Oper}{v:Value}{fuel:Nat}{listed:Array Bool}{a a':Act}{w:World}(i:Nat)(hS:S w)
  (h:AnyE P md l.toArray Q S last fuel (listed.setIfInBounds i true) a' w)
  (hi:l[i]? =some oi:=by rfl) (hwt:waitsFor md l.toArray last i=true:=by kernel_rfl) (hs:Region.noSelect l.toArray=true:=by kernel_rfl) (hf:Region.free md l.toArray listed i=true:=by kernel_rfl) (hr:(Region.ready md l.toArray listed).contains i=true:=by kernel_rfl)
  (hw:Region.wanted oi (yielded l.toArray a.tmps)=true:=by rfl)
  (hy:∀W,S W→(execOp a.eval oi).run P W=.ok (.value v) W:=by intro W hW;(repeat (obtain⟨_,hW⟩:=hW));go_simp;try with_reducible rfl)
  (hQ:∀c a w,Q (.panic c) (a.put oi.dst v) w→Q (.panic c) a w:=by exact fun _ _ _ h=>h)
  (ha:a.put oi.dst v=a':=by simp only[Act.put,Za,Zb,Zc,Zd,Ze,Zf];rfl):AnyE P md l.toArray Q S last (fuel+1) listed a w:=by
 subst ha;exact E_take (by rw[List.getElem?_toArray];exact hi) hwt hs hf hr hQ (Or.inl ⟨hw,hy⟩) hS h
theorem LU{l:List Oper}{o:Oper}{fuel:Nat}{listed:Array Bool}{a:Act}{w:World}(i:Nat)
  (h:∀K':Act→World→Prop,Shut (∀a w,(i≠last→S w)→((i≠last→S w)→AnyE P md l.toArray Q S last fuel (listed.setIfInBounds i true) a w)→K' a w)→if Region.wanted o (yielded l.toArray a.tmps)=true then Oper.wp P o a w K' Q else K' (a.put o.dst undef) w)
  (hr:Region.ready md l.toArray listed=[i]:=by kernel_rfl) (ho:l[i]? =some o:=by rfl):
  AnyE P md l.toArray Q S last (fuel+1) listed a w:=
 E_step hr (by rw[List.getElem?_toArray];exact ho) h
theorem LV{l:List Oper}{fuel i:Nat}{listed:Array Bool}{a a':Act}{w:World}{K':Act→World→Prop}(hK:Shut (∀a w,(i≠last→S w)→((i≠last→S w)→AnyE P md l.toArray Q S last fuel listed a w)→K' a w))(hS:i≠last→S w)
  (h:AnyE P md l.toArray Q S last fuel listed a' w) (ha:a=a':=by first|(simp only[Act.put,Za,Zb,Zc,Zd,Ze,Zf];rfl)|rfl):K' a w:=by
 subst ha;exact hK.out _ _ hS fun _=>h
theorem LB{l:List Oper}{id:Nat}{a:Act}{w:World}(S:World→Prop)(last:Nat)(hS:S w.drew)
  (h:∀w',w'=w.drew→S w'→AnyE P .any l.toArray Q S last l.toArray.size (Array.replicate l.toArray.size false) a w') (hm:P.follows .mixedOrders=true:=by kernel_rfl):(Code.region id l.toArray true).wp P Q a w:=
 wp_region_E S last hm (h _ rfl hS)
end
theorem setCell_same{w:World}{b i:Nat}{cs:Array Value}{e:TypeId}{f:Nat×Nat}{v:Value}(h:w.heap[b]? =some (.cells cs e f))(hv:cs[i]? =some v):w.setCell ⟨b,i,none⟩ v=w:=by
 have:(w.heap.modify b fun| .cells c elem frozen=>.cells (if(none:Option Nat).isSome then c else c.setIfInBounds i v) elem frozen|o=>o)=w.heap:=by
  apply Array.ext_getElem?
  intro k;rw[Array.getElem?_modify]
  split
  ·rename_i q
   subst q;rw[h];obtain⟨hi,hv'⟩:=Array.getElem?_eq_some_iff.1 hv;have:cs.setIfInBounds i v=cs:=by
    rw[Array.setIfInBounds,dif_pos hi,←hv'];exact Array.set_getElem_self hi
   simp[this]
  ·rfl
 show {w with heap:=_}=w
 cases w;exact congrArg (fun x=>World.mk x _ _ _ _) this
end Go.Proofs.YtjjdjpdmgaipeaaGreat
