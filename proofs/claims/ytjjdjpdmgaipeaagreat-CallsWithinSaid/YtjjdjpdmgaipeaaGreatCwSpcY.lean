/- SpcY, Cor, ExeW, Pair, Cpu, WordFns, WordGetA, InsW in one text. -/
import Derived.Test.YtjjdjpdmgaipeaaGreatCwSpcW
import Derived.Maps.RangeWalk
import Derived.Deep.RegionHeld3
import Derived.Deep.MidRow
import Derived.Test.YtjjdjpdmgaipeaaGreatCwPag
import Derived.Test.YtjjdjpdmgaipeaaGreatCwSl21
import Derived.Test.YtjjdjpdmgaipeaaGreatProg
import Derived.Test.YtjjdjpdmgaipeaaGreatCwBase
import Derived.Lib.Hide
import Derived.WalkSpells
import Derived.LoopTactic
import Derived.Laws.Tables
import Derived.Laws.CopyOwn
import Derived.Deep.QuietTactic
import Derived.BigQuiet
import Derived.Deep.DeepCutAuto
import Derived.Test.YtjjdjpdmgaipeaaGreatCwZa
set_option linter.unusedVariables false
set_option linter.unusedSimpArgs false
set_option maxRecDepth 100000
set_option maxHeartbeats 16000000
open Go.Proofs.Tryz
namespace Go.Proofs.YtjjdjpdmgaipeaaGreat
open Go.RowKit
theorem fold_set(off:Nat):∀(L:List Value) (k:Nat) (Z:Array Value),off+k+L.length≤Z.size→((L.zipIdx k).foldl (fun(cs:Array Value) (x:Value×Nat)=>cs.setIfInBounds (off+x.2) x.1) Z).size=Z.size∧
  ∀i,((L.zipIdx k).foldl (fun(cs:Array Value) (x:Value×Nat)=>cs.setIfInBounds (off+x.2) x.1) Z)[i]? =if off+k≤i∧i<off+k+L.length then L[i - (off+k)]? else Z[i]?
 | [],k,Z,_=>⟨rfl,fun i=>by rw[if_neg (by rw[List.length_nil];omega)];rfl⟩
 |x::L,k,Z,h=>by
  obtain⟨h1,h2⟩:=fold_set off L (k+1) (Z.setIfInBounds (off+k) x) (by simp at h⊢;omega);rw[List.zipIdx_cons,List.foldl_cons];refine⟨by rw[h1];simp,fun i=> ?_⟩;rw[h2 i];simp only[List.length_cons] at h⊢
  by_cases e:i=off+k
  ·subst e;rw[if_neg (by omega),if_pos (by omega),Nat.sub_self,Array.getElem?_setIfInBounds,if_pos rfl,if_pos (by omega)];rfl
  ·by_cases g:off+k≤i∧i<off+k+(L.length+1)
   ·rw[if_pos (by omega),if_pos g,show i - (off+k)=(i - (off+(k+1)))+1 by omega];rfl
   ·rw[if_neg (by omega),if_neg g,Array.getElem?_setIfInBounds,if_neg (by omega)]
theorem fold_page(Z:Array Value)(hZ:Z.size=257)(a:Int)(bs:List Value)(hb:bs.length=256):
  List.foldl (fun(cs:Array Value) (x:Value×Nat)=>cs.setIfInBounds (1+x.snd) x.fst) (Z.setIfInBounds 0 (.int .u8 a)) bs.zipIdx=(Value.int .u8 a::bs).toArray:=by
 obtain⟨g1,g2⟩:=fold_set 1 bs 0 (Z.setIfInBounds 0 (.int .u8 a)) (by simp[hZ,hb])
 apply Array.ext_getElem?
 intro i;rw[g2 i];cases i with
 |zero=>simp[hZ]
 |succ i=>
  by_cases g:1+0≤i+1∧i+1<1+0+bs.length
  ·rw[if_pos g];simp
  ·rw[if_neg g];rw[Array.getElem?_eq_none (by simp;omega),Array.getElem?_eq_none (by simp;omega)]
theorem zeroPageSize:Tryz.zeroCells289.size=257:=by kernel_rfl
def Pg.core(p:Pg):Int×Int×List Int:=(p.addr,p.perm,p.bytes)
def cores(A:List Pg):List (Int×Int×List Int):=A.map Pg.core
theorem Spc.insertPg{w:World}{sb mb:Nat}{A:List Pg}(h:Spc w sb mb A)(p:Pg)(hp:p.ok)(hn:atAddr A p.addr=none)(hblk:w.heap[p.blk]? =some (.cells p.cells 289 (0,0)))(hfresh:¬Spc.foot sb mb A p.blk):
  ∃w',(Instr.mapUpdate 249 (.map (some mb)) (.int .u32 p.addr) (.pointer (some ⟨p.blk,0,none⟩))).run Tryz.prog w=.ok () w'∧Spc w' sb mb (insPg p A)∧w.grownBy w' (some mb):=by
 obtain⟨D,n,ho,hv,hs⟩:=h.map;have ht:=own_tight ho;have hl:=h.len;have K:=Maps.int_keyed (P:=Tryz.prog) Tryz.underlying22;have h0:=hp.a0;have h1:=hp.a1;have hk:=Maps.keyOf_int_mk (P:=Tryz.prog) Tryz.underlying22 (wf_u32 h0 (by omega:p.addr≤4294967295));obtain⟨w',hrun,how,htu⟩:=ht.store K Tryz.underlying249 (by rw[hs];unfold maxLen;omega) (val:=.pointer (some ⟨p.blk,0,none⟩)) (d:=.lit (.int .i64 p.blk)) (ps:=[]) hk rfl;have hg:=htu.grown;have hne:∀k,k<w.heap.size→k≠mb→w'.heap[k]? =w.heap[k]? :=fun k hk hkm=>hg.block k hk (by simpa using hkm)
 refine⟨w',hrun,⟨?_, ?_, ?_, ?_, ?_, ?_⟩,hg⟩
 ·exact(hne sb (h.lt (.inl rfl)) h.ne_hm).trans h.head
 ·refine⟨_,_,how,fun x zd=> ?_, ?_⟩
  ·rw[atAddr_ins h.up hn]
   by_cases e:x=p.addr
   ·subst e;rw[if_pos rfl,Maps.atKey_put_same ht.isMap (K.key hk)]
   ·rw[if_neg e,Maps.atKey_put_other (by intro g;simp at g;exact e g),hv]
  ·rw[Maps.size_put (ht.tidy K),length_insPg,hs];have:Maps.has D (.int .u32 p.addr)=false:=Maps.has_false_of_atKey fun z=>by rw[hv,hn]
   rw[this];rfl
 ·intro q hq;rcases mem_insPg.1 hq with rfl|hq'
  ·exact(hne _ (lt_of_block hblk) (fun e=>hfresh (.inr (.inl e)))).trans hblk
  ·exact(hne q.blk (lt_of_block (h.page q hq')) (h.ne_map hq').symm).trans (h.page q hq')
 ·intro q hq;rcases mem_insPg.1 hq with rfl|hq'
  ·exact hp
  ·exact h.ok q hq'
 ·exact up_insPg h.up (atAddr_none hn)
 ·exact pw_insPg h.blks fun q hq e=>hfresh (.inr (.inr ⟨q,hq,e.symm⟩))
theorem cores_eq{A:List Pg}(h:A.Pairwise fun p q=>p.addr<q.addr):cores A=(A.map (·.addr)).map fun a=>((atAddr A a).map Pg.core).getD (0,0,[]):=by
 unfold cores;rw[List.map_map];refine List.map_congr_left fun p hp=> ?_
 show Pg.core p=((atAddr A p.addr).map Pg.core).getD _
 rw[atAddr_eq_some h hp];rfl
theorem rising_unique:∀ {l l':List Int},l.Pairwise (fun x y=>x<y)→l'.Pairwise (fun x y=>x<y)→(∀x,x∈l↔x∈l')→l=l':=by
 intro l l' h1 h2 h;refine List.Perm.eq_of_pairwise (le:=fun a b=>a<b) (fun a b _ _ g1 g2=>absurd g1 (by omega)) h1 h2 ((List.perm_ext_iff_of_nodup (h1.imp fun g=>by omega) (h2.imp fun g=>by omega)).2 h)
theorem cores_ext{A C:List Pg}(hA:A.Pairwise fun p q=>p.addr<q.addr)(hC:C.Pairwise fun p q=>p.addr<q.addr)(h:∀x,(atAddr C x).map Pg.core=(atAddr A x).map Pg.core):cores C=cores A:=by
 have hm:∀(B:List Pg) x,x∈B.map (·.addr)↔(atAddr B x).isSome=true:=by
  intro B x
  constructor
  ·intro g;cases hx:atAddr B x with
   |some p=>rfl
   |none=>
    obtain⟨p,hp,e⟩:=List.mem_map.1 g;exact absurd e (atAddr_none hx p hp)
  ·intro g;obtain⟨p,hp⟩:=Option.isSome_iff_exists.1 g;exact List.mem_map.2 ⟨p,(atAddr_mem hp).1,(atAddr_mem hp).2⟩
 have hadd:C.map (·.addr)=A.map (·.addr):=by
  refine rising_unique (List.pairwise_map.2 hC) (List.pairwise_map.2 hA) fun x=> ?_
  rw[hm,hm];have:=congrArg Option.isSome (h x)
  simpa using Iff.of_eq (congrArg (·=true) this)
 rw[cores_eq hA,cores_eq hC,hadd];exact List.map_congr_left fun a _=>by rw[h]
namespace Sp
def cpRel(w:World)(sb mb:Nat)(A:List Pg)(D:DataW Unit)(n sb' mb' r:Nat)(wr:World):Prop:=
 ∃(left:Lit→Bool) (cnt:Nat) (C:List Pg),wr.ranges Tryz.prog 22 ptrElem mb r n D left cnt∧Spc wr sb mb A∧Spc wr sb' mb' C∧(∀k,Spc.foot sb' mb' C k→w.heap.size≤k)∧r≠sb'∧r≠mb'∧(∀p,p∈C→p.blk≠r)∧w.heap.size≤r∧Below w.heap.size w wr∧
  ∀x,(atAddr C x).map Pg.core=if left (.int .u32 x) then none else(atAddr A x).map Pg.core
def CopyPost(w:World)(A:List Pg)(e:Ending)(w':World):Prop:=
 ∃(sb' mb':Nat) (C:List Pg),e=.returned (.pointer (some ⟨sb',0,none⟩))∧Spc w' sb' mb' C∧cores C=cores A∧(∀k,Spc.foot sb' mb' C k→w.heap.size≤k)∧Below w.heap.size w w'
theorem copy{w:World}{sb mb:Nat}{A:List Pg}(h:Spc w sb mb A):Calls Tryz.prog 84 #[.pointer (some ⟨sb,0,none⟩)] w (CopyPost w A):=by
 have K:=Maps.int_keyed (P:=Tryz.prog) Tryz.underlying22;obtain⟨D,n,ho,hv,hs⟩:=h.map;have Hv:=Lh hv;have H:=Lh h;have hfl:∀k,Spc.foot sb mb A k→k<w.heap.size:=fun k hk=>h.lt hk
 have Hfl:=Lh hfl;have Ho:=Lh ho;clear h hv hs hfl ho;go_enter func84,ntmps84;go_wp2_with fail;refine(new _).mono ?_;rintro e w1 ⟨rfl,h1,hb1,hz1⟩;have hs1:=H.out.below hb1 Hfl.out;have hc:=hs1.cellHead;have ho1:w1.ownsMap Tryz.prog 22 ptrElem mb n D:=own_of_block Ho.out (hb1.block mb (Hfl.out mb (.inr (.inl rfl))));have Ho1:=Lh ho1;have H1:=Lh h1;have Hs1:=Lh hs1;have Hb1:=Lh hb1;have Hz1:=Lh hz1;clear hs1 h1 hb1 ho1 hz1;obtain⟨sb',hsb'⟩:∃s,w.heap.size+1=s:=⟨_,rfl⟩;obtain⟨mb',hmb'⟩:∃s,w.heap.size=s:=⟨_,rfl⟩;have Hsb:=Lh hsb';have Hmb:=Lh hmb';rw[hsb'] at H1⊢;rw[hmb'] at H1;clear hsb' hmb';go_wp2_with (at_range;refine wpList_range_own _ rfl _ 249 rfl 22 250 K Tryz.underlying249 ptrElem mb n D rfl Ho1.out ?_;intro w2 hrg hg2 hz2);obtain⟨r,hr⟩:∃r,w1.heap.size=r:=⟨_,rfl⟩;rw[hr] at hrg⊢;have Hr:=Lh hr;have h2:cpRel w sb mb A D n sb' mb' r w2:=by
  have hz:=Hz1.out;have e1:=Hsb.out;have e2:=Hmb.out;have hb2:Below w.heap.size w w2:=Hb1.out.grown hg2 Hb1.out.size (fun k e=>by cases e);refine⟨_,_,[],hrg,H.out.below hb2 Hfl.out,H1.out.frame fun k hk=>hg2.block k ?_ (by simp),fun k hk=> ?_,by omega,by omega,fun p hp=>by simp at hp,by omega,hb2,fun x=> ?_⟩
  ·exact H1.out.lt hk
  ·rcases hk with rfl|rfl|⟨p,hp,_⟩
   ·omega
   ·omega
   ·simp at hp
  ·have:Maps.has D (.int .u32 x)=(atAddr A x).isSome:=by
    cases hx:atAddr A x with
    |some p=>exact Maps.has_true_of_atKey (y:=.lit (.int .i64 p.blk)) fun zd=>by rw[Hv.out,hx]
    |none=>exact Maps.has_false_of_atKey fun z=>by rw[Hv.out,hx]
   rw[this];cases atAddr A x<;>rfl
 have H2:=Lh h2;clear hr hrg hg2 hz2 h2 hc;go_frame;go_loopw [4,5] (fun _ _ wr=>cpRel w sb mb A D n sb' mb' r wr) (fun _ _ wr=>wr.rangeLeft mb r)
 case atStart=>exact H2.out
 case round=>
  clear H2 Hs1 H1 Ho1 Hb1 Hz1 Ho Hr;clear w2 w1;obtain⟨left,cnt,C,hrg,hsA,hsC,hft,hr1,hr2,hr4,hr3,hbw,hat⟩:=hrel;have Hrg:=Lh hrg;have HA:=Lh hsA;have HC:=Lh hsC;have Hft:=Lh hft;have Hr3:=Lh hr3;have Hbw:=Lh hbw;have Hat:=Lh hat
  clear hrg hsA hsC hft hr3 hbw hat
  go_wp2_with (at_next;refine wpList_next_ranges _ rfl _ rfl 22 K ptrElem (Value.int .u32) id (fun key kl hk=>by obtain⟨x,hx,_⟩:=Maps.keyOf_int_inv Tryz.underlying22 hk;exact⟨x,hx⟩) (fun v _ _=>⟨v,rfl⟩) mb r n D left cnt rfl Hrg.out ?_ ?_)
  ·intro hc0 hl0;go_wp2;go_ret;exact⟨sb',mb',C,rfl,HC.out,cores_ext H.out.up HC.out.up fun x=>by rw[Hat.out,hl0];rfl,Hft.out,Hbw.out⟩
  ·intro x c kl y1 y2 w3 cnt2 hkey hlk hR hat3 hrg3 hlt hg3 hs3 hen;obtain⟨x',ex,rfl,hwx⟩:=Pag.keyOf_u32 Tryz.underlying22 hkey;obtain rfl:x=x':=by simpa [Pag.encU] using ex
   obtain⟨p,hp,hy⟩:∃p,atAddr A x=some p∧y1=.lit (.int .i64 p.blk):=by
    cases hx:atAddr A x with
    |some p=>exact⟨p,rfl,by rw[←hat3 y1,Hv.out,hx]⟩
    |none=>
     have g1:=hat3 (.lit (.int .i64 0));have g2:=hat3 (.lit (.int .i64 1));rw[Hv.out,hx] at g1 g2;rw[←g1] at g2;simp at g2
   subst hy;obtain rfl:c=.pointer (some ⟨p.blk,0,none⟩):=by
    rcases ptrElem_inv hR with⟨_,hb⟩|⟨b,e,hb⟩
    ·omega
    ·have:b=p.blk:=by omega
     subst this;exact e
   have hpm:=atAddr_mem hp;obtain⟨hpm,rfl⟩:=hpm;have hw3b:Below w.heap.size w w3:=Hbw.out.grown hg3 Hbw.out.size (fun k e=>by cases e;exact Hr3.out);have hA3:Spc w3 sb mb A:=H.out.below hw3b Hfl.out;have hC3:Spc w3 sb' mb' C:=HC.out.frame fun k hk=>hg3.block k (HC.out.lt hk) (by
    rintro e;cases e;rcases hk with g|g|⟨q,hq,g⟩
    ·exact hr1 g
    ·exact hr2 g
    ·exact hr4 q hq g.symm)
   have hcn:atAddr C p.addr=none:=by
    have:=Hat.out p.addr;rw[if_pos hlk] at this
    simpa using this
   have hpo:=hA3.ok p hpm;have hpg:=hA3.page p hpm
   -- the new page
   obtain⟨q,hq⟩:∃q:Pg,q= { p with blk:=w3.heap.size }:=⟨_,rfl⟩;have hq1:q.addr=p.addr:=by rw[hq]
   have hq2:q.blk=w3.heap.size:=by rw[hq]
   have hqc:q.cells=p.cells:=by rw[hq];rfl
   have hqo:q.ok:=by rw[hq];exact⟨hpo.a0,hpo.a1,hpo.a2,hpo.p0,hpo.p1,hpo.len,hpo.bd⟩
   have hC4:Spc (w3.alloc (.cells q.cells 289)).drew sb' mb' C:=hC3.frame fun k hk=>by
    have:=hC3.lt hk;exact Below.heap_alloc _ _ _ this
   have hbq:(w3.alloc (.cells q.cells 289)).drew.heap[q.blk]? =some (.cells q.cells 289 (0,0)):=by rw[hq2];exact heap_alloc_new w3 _
   obtain⟨w5,hrun,hC5,hg5⟩:=hC4.insertPg q hqo (by rw[hq1];exact hcn) hbq (fun g=>by have:=hC3.lt g;omega);rw[hq1,hq2,hqc] at hrun;rw[show p.cells=_ from(fold_page _ zeroPageSize p.perm (p.bytes.map (Value.int .u8)) (by rw[List.length_map,hpo.len])).symm] at hrun;have hch:=hC3.cellHead;have hcp:=hA3.cellPerm hpm;have hra:w3.rangeAt p.blk 1 (p.bytes.map (Value.int .u8)):=fun j v hj=>by
    have hj':j<256:=by have g1:=(List.getElem?_eq_some_iff.1 hj).1;have g2:=hpo.len;rw[List.length_map] at g1;omega
    rw[hA3.cellByte hpm j hj',←hj];have hl:=hpo.len;simp[List.getD,Zg (show j<p.bytes.length by omega)]
   have hund:=Tryz.underlying287;have hplen:=hpo.len;have hinf:(Tryz.prog.info? 287).map (·.size)=some (p.bytes.map (Value.int .u8)).length:=by rw[List.length_map,hpo.len];kernel_rfl
   have hmbl:=Hfl.out mb (.inr (.inl rfl));have hmb2:=Hft.out mb' (.inr (.inl rfl));have hrl:=hrg3.lt;have hg4:w3.grownBy (w3.alloc (.cells q.cells 289)).drew none:=by
    have g:=World.grownBy_alloc w3 (.cells q.cells 289) none;exact⟨g.os,g.tape,g.output,g.size,g.block⟩
   have hrg5:w5.ranges Tryz.prog 22 ptrElem mb r n D (fun z=>left z&& !z.sameKey (.int .u32 p.addr)) cnt2:=
    (hrg3.kept hg4 (by simp) (by simp)).kept hg5 (by intro e;cases e;omega) (by intro e;cases e;exact hr2 rfl)
   have hw5b:Below w.heap.size w w5:=(hw3b.grown hg4 hw3b.size (fun k e=>by cases e)).grown hg5 (by have:=hw3b.size;simp;omega) (fun k e=>by cases e;exact hmb2);have hA5:Spc w5 sb mb A:=H.out.below hw5b Hfl.out;have hch5:=hC5.cellHead;have hcp5:=hA5.cellPerm hpm;have hra5:w5.rangeAt p.blk 1 (p.bytes.map (Value.int .u8)):=fun j v hj=>by
    have hj':j<256:=by have g1:=(List.getElem?_eq_some_iff.1 hj).1;have g2:=hpo.len;rw[List.length_map] at g1;omega
    rw[hA5.cellByte hpm j hj',←hj];have hl:=hpo.len;simp[List.getD,Zg (show j<p.bytes.length by omega)]
   have fin:cpRel w sb mb A D n sb' mb' r w5:=by
    refine⟨_,cnt2,insPg q C,hrg5,hA5,hC5,fun k hk=> ?_,hr1,hr2,fun g hg=> ?_,Hr3.out,hw5b,fun x=> ?_⟩
    ·rcases foot_insPg.1 hk with g|g
     ·rw[g,hq2];exact hw3b.size
     ·exact Hft.out k g
    ·rcases mem_insPg.1 hg with rfl|g2
     ·rw[hq2];omega
     ·exact hr4 g g2
    ·rw[atAddr_ins hC3.up (by rw[hq1];exact hcn),hq1]
     by_cases e:x=p.addr
     ·subst e;rw[if_pos rfl,hp];simp[Lit.sameKey,hq,Pg.core]
     ·rw[if_neg e,Hat.out x];simp[Lit.sameKey,e]
   have Fin:=Lh fin;have Hrg5:=Lh hrg5;have Hlt:=Lh hlt;have Hrgl:=Lh Hrg.out.left_eq;have hsl:=Lh (hC3.lt (.inl rfl));have hpl:=Lh (hA3.lt (.inr (.inr ⟨p,hpm,rfl⟩)));clear hmbl hmb2 hrl hg4 hw5b hA5;clear fin hrg5 hlt hrg3 hg3 hs3 hA3 hC3 hcn hpo hpg hq hqo hC4 hbq hC5 hg5 hw3b hat3 hp hwx ex hR hlk hkey hpm Hat hqc hq1 hq2 hr1 hr2 hr4;go_wp2;go_region_held3 (fun w'=>w'.cell? ⟨sb',0,none⟩=some (.map (some mb'))∧w'.cell? ⟨p.blk,0,none⟩=some (.int .u8 p.perm)∧w'.rangeAt p.blk 1 (p.bytes.map (Value.int .u8)))
    (first
     |exact⟨hch,hcp,hra⟩
     |exact⟨hch5,hcp5,hra5⟩
     |exact⟨(World.cell?_of_block (w:=w3) (Below.heap_alloc _ _ _ hsl.out)).trans hch,(World.cell?_of_block (w:=w3) (Below.heap_alloc _ _ _ hpl.out)).trans hcp,World.rangeAt_alloc hra _⟩)
    (first|fail)
   all_goals
    go_wp2;exact⟨Fin.out,by rw[Hrg5.out.left_eq,Hrgl.out];exact Hlt.out⟩
end Sp
namespace Cor
theorem find_map(A:List Pg)(x:Int):(atAddr A x).map Pg.core=(cores A).find? fun c=>c.1 == x:=by
 unfold atAddr cores;rw[List.find?_map];rfl
theorem at_eq{A B:List Pg}(h:cores A=cores B)(x:Int):(atAddr A x).map Pg.core=(atAddr B x).map Pg.core:=by rw[find_map,find_map,h]
theorem page_eq{A B:List Pg}(h:cores A=cores B)(x:Int):(pageAt A x).map Pg.core=(pageAt B x).map Pg.core:=at_eq h _
theorem page_cases{A B:List Pg}(h:cores A=cores B)(x:Int):(pageAt A x=none∧pageAt B x=none)∨∃p q,pageAt A x=some p∧pageAt B x=some q∧p.addr=q.addr∧p.perm=q.perm∧p.bytes=q.bytes:=by
 have e:=page_eq h x;cases hA:pageAt A x with
 |none=>cases hB:pageAt B x with
  |none=>exact .inl ⟨rfl,rfl⟩
  |some q=>rw[hA,hB] at e;cases e
 |some p=>cases hB:pageAt B x with
  |none=>rw[hA,hB] at e;cases e
  |some q=>
   rw[hA,hB] at e;simp only[Option.map_some,Option.some.injEq,Pg.core,Prod.mk.injEq] at e;exact .inr ⟨p,q,rfl,rfl,e.1,e.2.1,e.2.2⟩
theorem okAt{A B:List Pg}(h:cores A=cores B)(need x:Int):Sp.okAt A need x=Sp.okAt B need x:=by
 unfold Sp.okAt;rcases page_cases h x with⟨h1,h2⟩|⟨p,q,h1,h2,_,e,_⟩
 ·rw[h1,h2]
 ·rw[h1,h2];simp only[e]
theorem byteAt{A B:List Pg}(h:cores A=cores B)(x:Int):Sp.byteAt A x=Sp.byteAt B x:=by
 unfold Sp.byteAt;rcases page_cases h x with⟨h1,h2⟩|⟨p,q,h1,h2,_,_,e⟩
 ·rw[h1,h2]
 ·rw[h1,h2];simp only[e]
theorem fitsB{A B:List Pg}(h:cores A=cores B)(addr:Int)(n:Nat)(need:Int):Sp.fitsB A addr n need=Sp.fitsB B addr n need:=by
 unfold Sp.fitsB
 congr 1
 funext k
 exact okAt h need _
theorem fitsE{A B:List Pg}(h:cores A=cores B)(addr:Int)(n:Nat)(need:Int):Sp.fitsE A addr n need=Sp.fitsE B addr n need:=by unfold Sp.fitsE;rw[fitsB h]
theorem getL{A B:List Pg}(h:cores A=cores B)(addr:Int)(n:Nat):Sp.getL A addr n=Sp.getL B addr n:=by
 unfold Sp.getL
 congr 1
 funext k
 exact byteAt h _
theorem getE{A B:List Pg}(h:cores A=cores B)(addr n need:Int):Sp.getE A addr n need=Sp.getE B addr n need:=by unfold Sp.getE;rw[fitsE h]
theorem getS{A B:List Pg}(h:cores A=cores B)(addr n need:Int):Sp.getS A addr n need=Sp.getS B addr n need:=by unfold Sp.getS;rw[fitsB h,getL h]
theorem some_eq{A B:List Pg}(h:cores A=cores B)(x:Int):(pageAt A x).isSome=(pageAt B x).isSome:=by
 rcases page_cases h x with⟨h1,h2⟩|⟨p,q,h1,h2,_⟩<;>rw[h1,h2]<;>rfl
theorem mapE{A B:List Pg}(h:cores A=cores B)(addr perm:Int):Sp.mapE A addr perm=Sp.mapE B addr perm:=by unfold Sp.mapE;rw[some_eq h]
theorem unmapE{A B:List Pg}(h:cores A=cores B)(addr:Int):Sp.unmapE A addr=Sp.unmapE B addr:=by unfold Sp.unmapE;rw[some_eq h]
theorem permB{A B:List Pg}(h:cores A=cores B)(addr:Int):Sp.permB A addr=Sp.permB B addr:=some_eq h _
theorem permV{A B:List Pg}(h:cores A=cores B)(addr:Int):Sp.permV A addr=Sp.permV B addr:=by
 unfold Sp.permV;rcases page_cases h addr with⟨h1,h2⟩|⟨p,q,h1,h2,_,e,_⟩
 ·rw[h1,h2]
 ·rw[h1,h2];exact e
theorem addrs_eq{A B:List Pg}(h:cores A=cores B):Pag.addrs A=Pag.addrs B:=by
 have:=congrArg (List.map Prod.fst) h;unfold cores at this;rw[List.map_map,List.map_map] at this;exact this
theorem len_eq{A B:List Pg}(h:cores A=cores B):A.length=B.length:=by
 have:=congrArg List.length h;unfold cores at this
 simpa using this
theorem cons_inv{A:List Pg}{q:Pg}{B:List Pg}(h:cores A=cores (q::B)):∃p A',A=p::A'∧p.core=q.core∧cores A'=cores B:=by
 cases A with
 |nil=>cases h
 |cons p A'=>
  have h':p.core::cores A'=q.core::cores B:=h;rw[List.cons.injEq] at h';exact⟨p,A',rfl,h'.1,h'.2⟩
theorem nil_inv{A:List Pg}(h:cores A=cores []):A=[]:=by
 cases A with
 |nil=>rfl
 |cons p A'=>cases h
theorem addr_of{p q:Pg}(h:p.core=q.core):p.addr=q.addr:=congrArg Prod.fst h
theorem ins{p q:Pg}(hpq:p.core=q.core):∀ {A B:List Pg},cores A=cores B→cores (insPg p A)=cores (insPg q B)
 |A,[],h=>by rw[nil_inv h];show [p.core]=[q.core];rw[hpq]
 |A,b::B,h=>by
  obtain⟨a,A',rfl,e,h'⟩:=cons_inv h;have e1:=addr_of e;have e2:=addr_of hpq
  show cores (if p.addr<a.addr then _ else _)=cores (if q.addr<b.addr then _ else _)
  rw[e1,e2]
  split
  ·show p.core::a.core::cores A'=q.core::b.core::cores B
   rw[hpq,e,h']
  ·show a.core::cores (insPg p A')=b.core::cores (insPg q B)
   rw[e,ins hpq h']
theorem del(x:Int):∀ {A B:List Pg},cores A=cores B→cores (delPg x A)=cores (delPg x B)
 |A,[],h=>by rw[nil_inv h]
 |A,b::B,h=>by
  obtain⟨a,A',rfl,e,h'⟩:=cons_inv h;have e1:=addr_of e;have ih:=del x h';unfold delPg at ih⊢;rw[List.filter_cons,List.filter_cons,e1]
  split
  ·show a.core::cores _=b.core::cores _
   rw[e,ih]
  ·exact ih
theorem set_core(x v:Int){p q:Pg}(h:p.core=q.core):(setPg x v p).core=(setPg x v q).core:=by
 have h1:=addr_of h;have h2:p.perm=q.perm:=congrArg (fun c=>c.2.1) h;have h3:p.bytes=q.bytes:=congrArg (fun c=>c.2.2) h;unfold setPg Pg.core;rw[h1]
 split
 ·first|(simp only[h2,h3];done)|(simp only[h1,h2,h3];done)
 ·first|exact h|(simp only[h2,h3];done)
theorem set(x v:Int):∀ {A B:List Pg},cores A=cores B→cores (setByte A x v)=cores (setByte B x v)
 |A,[],h=>by rw[nil_inv h]
 |A,b::B,h=>by
  obtain⟨a,A',rfl,e,h'⟩:=cons_inv h
  show(setPg x v a).core::cores (setByte A' x v)=(setPg x v b).core::cores (setByte B x v)
  rw[set_core x v e,set x v h']
theorem put(addr:Int)(xs:List Int){A B:List Pg}(h:cores A=cores B):∀k,cores (putN A addr xs k)=cores (putN B addr xs k)
 |0=>h
 |k+1=>set _ _ (put addr xs h k)
theorem putA{A B:List Pg}(h:cores A=cores B)(addr need:Int)(s:ByteArray):cores (Sp.putA A addr need s)=cores (Sp.putA B addr need s):=by
 unfold Sp.putA;rw[fitsB h]
 split
 ·exact put _ _ h _
 ·exact h
theorem mapA{A B:List Pg}(h:cores A=cores B)(addr:Int)(b c:Nat)(perm:Int):cores (Sp.mapA A addr b perm)=cores (Sp.mapA B addr c perm):=by
 unfold Sp.mapA;rw[mapE h]
 split
 ·exact ins (p:=pgNew addr b perm) (q:=pgNew addr c perm) rfl h
 ·exact h
theorem unmapA{A B:List Pg}(h:cores A=cores B)(addr:Int):cores (Sp.unmapA A addr)=cores (Sp.unmapA B addr):=by
 unfold Sp.unmapA;rw[unmapE h]
 split
 ·exact del _ h
 ·exact h
end Cor
open Go.RowKit Word
namespace Cp
structure Regs(r:List Int):Prop where
 len:r.length=16
 bd:∀x,x∈r→0≤x∧x≤4294967295
def rg(r:List Int)(n:Int):Int:=r.getD n.toNat 0
theorem rg_bd{r:List Int}(h:Regs r)(n:Int):0≤rg r n∧rg r n≤4294967295:=by
 unfold rg
 by_cases hn:n.toNat<r.length
 ·rw[List.getD,Zg hn];exact h.bd _ (List.getElem_mem hn)
 ·rw[List.getD,List.getElem?_eq_none (by omega)];exact⟨by simp,by simp⟩
def putG(r:List Int)(n v:Int):List Int:=if n=0 then r else r.set n.toNat v
structure Out where
 kind:Int
 num:Int
 why:Int
 r:List Int
 pc:Int
 A:List Pg
def next(pc:Int):Int:=(pc+8) % 4294967296
def faults(A:List Pg)(r:List Int)(pc why:Int):Out:=⟨2,0,why,r,pc,A⟩
def goes(A:List Pg)(r:List Int)(pc:Int):Out:=⟨0,0,0,r,pc,A⟩
def addr(r:List Int)(x:Ins):Int:=(rg r x.a+x.imm) % 4294967296
def loads(A:List Pg)(r:List Int)(pc:Int)(x:Ins)(n:Nat):Out:=
 if Sp.fitsB A (addr r x) n 1 then goes A (putG r x.d (getV (Sp.getL A (addr r x) n))) (next pc) else faults A r pc 50
def stores(A:List Pg)(r:List Int)(pc:Int)(x:Ins)(n:Nat):Out:=
 if Sp.fitsB A (addr r x) n 2 then goes (putN A (addr r x) ((putL (rg r x.b)).take n) n) r (next pc) else faults A r pc 50
def br(c:Bool)(a b:Int):Int:=if c then a else b
def exe(A:List Pg)(r:List Int)(pc:Int)(x:Ins):Out:=
 if x.op≤14 then goes A (putG r x.d (opv x.op (rg r x.a) (rg r x.b))) (next pc)
 else if x.op≤30 then goes A (putG r x.d (opv (x.op - 16) (rg r x.a) x.imm)) (next pc)
 else if x.op=32 then goes A (putG r x.d x.imm) (next pc)
 else if x.op=33 then loads A r pc x 1
 else if x.op=34 then loads A r pc x 4
 else if x.op=35 then stores A r pc x 1
 else if x.op=36 then stores A r pc x 4
 else if x.op=40 then goes A r x.imm
 else if x.op=41 then goes A (putG r x.d (next pc)) x.imm
 else if x.op=42 then goes A r (rg r x.a)
 else if x.op=43 then goes A r (br (rg r x.a == rg r x.b) x.imm (next pc))
 else if x.op=44 then goes A r (br (rg r x.a != rg r x.b) x.imm (next pc))
 else if x.op=45 then goes A r (br (decide (rg r x.a<rg r x.b)) x.imm (next pc))
 else if x.op=46 then goes A r (br (decide (rg r x.b≤rg r x.a)) x.imm (next pc))
 else⟨1,x.imm,0,r,next pc,A⟩
def stp(A:List Pg)(r:List Int)(pc:Int):Out:=
 if Sp.fitsB A pc 8 4 then
  (if Ins.decB (strOfNums (Sp.getL A pc 8)) then exe A r pc (Ins.decI (strOfNums (Sp.getL A pc 8))) else faults A r pc 7)
 else faults A r pc 50
def run(A:List Pg)(r:List Int)(pc:Int):Nat→Out×Nat
 |0=>(goes A r pc,0)
 |n+1=>
  let o:=stp A r pc
  if o.kind=0 then(let q:=run o.A o.r o.pc n;(q.1,q.2+1)) else if o.kind=2 then(o,0) else(o,1)
end Cp
open Go.RowKit Word
namespace Cp
structure Like(o p:Out):Prop where
 kind:o.kind=p.kind
 num:o.num=p.num
 why:o.why=p.why
 r:o.r=p.r
 pc:o.pc=p.pc
 cores:cores o.A=Go.Proofs.YtjjdjpdmgaipeaaGreat.cores p.A
section
variable {A B:List Pg} (h:cores A=cores B) (r:List Int) (pc:Int)
include h
theorem like_goes:Like (goes A r pc) (goes B r pc):=⟨rfl,rfl,rfl,rfl,rfl,h⟩
theorem like_faults(why:Int):Like (faults A r pc why) (faults B r pc why):=⟨rfl,rfl,rfl,rfl,rfl,h⟩
theorem like_loads(x:Ins)(n:Nat):Like (loads A r pc x n) (loads B r pc x n):=by
 unfold loads;rw[Cor.fitsB h,Cor.getL h]
 split
 ·exact like_goes h _ _
 ·exact like_faults h _ _ _
theorem like_stores(x:Ins)(n:Nat):Like (stores A r pc x n) (stores B r pc x n):=by
 unfold stores;rw[Cor.fitsB h]
 split
 ·exact⟨rfl,rfl,rfl,rfl,rfl,Cor.put _ _ h _⟩
 ·exact like_faults h _ _ _
theorem like_exe(x:Ins):Like (exe A r pc x) (exe B r pc x):=by
 unfold exe
 by_cases c0:x.op≤14
 ·rw[if_pos c0,if_pos c0];exact like_goes h _ _
 rw[if_neg c0,if_neg c0]
 by_cases c1:x.op≤30
 ·rw[if_pos c1,if_pos c1];exact like_goes h _ _
 rw[if_neg c1,if_neg c1]
 by_cases c2:x.op=32
 ·rw[if_pos c2,if_pos c2];exact like_goes h _ _
 rw[if_neg c2,if_neg c2]
 by_cases c3:x.op=33
 ·rw[if_pos c3,if_pos c3];exact like_loads h _ _ _ _
 rw[if_neg c3,if_neg c3]
 by_cases c4:x.op=34
 ·rw[if_pos c4,if_pos c4];exact like_loads h _ _ _ _
 rw[if_neg c4,if_neg c4]
 by_cases c5:x.op=35
 ·rw[if_pos c5,if_pos c5];exact like_stores h _ _ _ _
 rw[if_neg c5,if_neg c5]
 by_cases c6:x.op=36
 ·rw[if_pos c6,if_pos c6];exact like_stores h _ _ _ _
 rw[if_neg c6,if_neg c6]
 by_cases c7:x.op=40
 ·rw[if_pos c7,if_pos c7];exact like_goes h _ _
 rw[if_neg c7,if_neg c7]
 by_cases c8:x.op=41
 ·rw[if_pos c8,if_pos c8];exact like_goes h _ _
 rw[if_neg c8,if_neg c8]
 by_cases c9:x.op=42
 ·rw[if_pos c9,if_pos c9];exact like_goes h _ _
 rw[if_neg c9,if_neg c9]
 by_cases c10:x.op=43
 ·rw[if_pos c10,if_pos c10];exact like_goes h _ _
 rw[if_neg c10,if_neg c10]
 by_cases c11:x.op=44
 ·rw[if_pos c11,if_pos c11];exact like_goes h _ _
 rw[if_neg c11,if_neg c11]
 by_cases c12:x.op=45
 ·rw[if_pos c12,if_pos c12];exact like_goes h _ _
 rw[if_neg c12,if_neg c12]
 by_cases c13:x.op=46
 ·rw[if_pos c13,if_pos c13];exact like_goes h _ _
 rw[if_neg c13,if_neg c13];exact⟨rfl,rfl,rfl,rfl,rfl,h⟩
theorem like_stp:Like (stp A r pc) (stp B r pc):=by
 unfold stp;rw[Cor.fitsB h,Cor.getL h]
 repeat' split
 ·exact like_exe h _ _ _
 ·exact like_faults h _ _ _
 ·exact like_faults h _ _ _
end
end Cp
structure SStep(w w':World)(sb mb:Nat)(A A':List Pg):Prop where
 sp:Spc w' sb mb A'
 mod:Mod (Spc.foot sb mb A) w w'
 foot:∀k,Spc.foot sb mb A' k→Spc.foot sb mb A k∨w.heap.size≤k
theorem SStep.refl{w:World}{sb mb:Nat}{A:List Pg}(h:Spc w sb mb A):SStep w w sb mb A A:=⟨h,Mod.refl _ _,fun _ g=>.inl g⟩
namespace Sp
section
variable {w:World} {sb mb:Nat} {A:List Pg}
theorem s_map(h:Spc w sb mb A)(addr perm:Int)(h0:0≤addr)(h1:addr≤4294967295)(p0:0≤perm)(p1:perm≤255):
  Calls Tryz.prog 131 #[.pointer (some ⟨sb,0,none⟩),.int .u32 addr,.int .u8 perm] w fun e w'=>∃blk,e=.returned (.int .i64 (mapE A addr perm))∧SStep w w' sb mb A (mapA A addr blk perm):=
 (map_any h addr perm h0 h1 p0 p1).mono fun e w' ⟨g1,g2,g3⟩=>⟨_,g1,⟨g2,g3.mono fun k _ hk=>.inr (.inl hk),fun k hk=>by
  rcases foot_mapA hk with rfl|g
  ·exact .inr (Nat.le_refl _)
  ·exact .inl g⟩⟩
theorem foot_unmapA{addr:Int}{k:Nat}(h:Spc.foot sb mb (unmapA A addr) k):Spc.foot sb mb A k:=by
 unfold unmapA at h
 split at h
 ·rcases h with h|h|⟨p,hp,h⟩
  ·exact .inl h
  ·exact .inr (.inl h)
  ·exact .inr (.inr ⟨p,(mem_delPg.1 hp).1,h⟩)
 ·exact h
theorem s_unmap(h:Spc w sb mb A)(addr:Int)(h0:0≤addr)(h1:addr≤4294967295):
  Calls Tryz.prog 321 #[.pointer (some ⟨sb,0,none⟩),.int .u32 addr] w fun e w'=>e=.returned (.int .i64 (unmapE A addr))∧SStep w w' sb mb A (unmapA A addr):=
 (unmap_any h addr h0 h1).mono fun e w' ⟨g1,g2,g3⟩=>⟨g1,⟨g2,g3.mono fun k _ hk=>.inr (.inl hk),fun k hk=>.inl (foot_unmapA hk)⟩⟩
theorem s_set(h:Spc w sb mb A)(addr:Int)(s:ByteArray)(h0:0≤addr)(h1:addr≤4294967295)(hn:s.size≤140737488355328):
  Calls Tryz.prog 132 #[.pointer (some ⟨sb,0,none⟩),.int .u32 addr,.string s] w fun e w'=>e=.returned (.int .i64 (fitsE A addr s.size 0))∧SStep w w' sb mb A (putA A addr 0 s):=
 (set h addr s h0 h1 hn).mono fun e w' ⟨g1,g2,g3⟩=>⟨g1,⟨g2,g3.mono fun k _ hk=>.inr (.inr hk),fun k hk=>.inl (foot_putA.1 hk)⟩⟩
theorem s_write(h:Spc w sb mb A)(addr:Int)(s:ByteArray)(h0:0≤addr)(h1:addr≤4294967295)(hn:s.size≤140737488355328):
  Calls Tryz.prog 278 #[.pointer (some ⟨sb,0,none⟩),.int .u32 addr,.string s] w fun e w'=>e=.returned (.int .i64 (fitsE A addr s.size 2))∧SStep w w' sb mb A (putA A addr 2 s):=
 (write h addr s h0 h1 hn).mono fun e w' ⟨g1,g2,g3⟩=>⟨g1,⟨g2,g3.mono fun k _ hk=>.inr (.inr hk),fun k hk=>.inl (foot_putA.1 hk)⟩⟩
end
end Sp
structure Pair(w:World)(sb mb:Nat)(A:List Pg)(rb:Nat)(lv:Value)(R:List Rp):Prop where
 sp:Spc w sb mb A
 rp:Rsp w rb lv R
 apart:∀k,Spc.foot sb mb A k→¬Rsp.foot rb lv R k
theorem Rsp.keep{w w':World}{rb:Nat}{lv:Value}{R:List Rp}{F:Nat→Prop}(h:Rsp w rb lv R)(hm:Mod F w w')(hf:∀k,Rsp.foot rb lv R k→¬F k):Rsp w' rb lv R:=h.frame fun k hk=>hm.block k (h.lt hk) (hf k hk)
section
variable {w w':World} {sb mb rb:Nat} {A A':List Pg} {lv lv':Value} {R R':List Rp}
theorem Pair.below(h:Pair w sb mb A rb lv R)(hb:Below w.heap.size w w'):Pair w' sb mb A rb lv R:=⟨h.sp.below hb fun _ hk=>h.sp.lt hk,h.rp.same hb,h.apart⟩
theorem Pair.left(h:Pair w sb mb A rb lv R)(s:SStep w w' sb mb A A'):Pair w' sb mb A' rb lv R:=
 ⟨s.sp,h.rp.keep s.mod fun k hk g=>h.apart k g hk,fun k hk g=>by
  rcases s.foot k hk with q|q
  ·exact h.apart k q g
  ·have:=h.rp.lt g;omega⟩
theorem Pair.right(h:Pair w sb mb A rb lv R)(s:RStep w w' rb lv R lv' R'):Pair w' sb mb A rb lv' R':=
 ⟨h.sp.keep s.mod fun k hk g=>h.apart k hk g,s.sp,fun k hk g=>by
  rcases s.foot k g with q|q
  ·exact h.apart k hk q
  ·have:=h.sp.lt hk;omega⟩
end
open Go.RowKit Word
namespace Cp
def cells(r:List Int)(pc:Int):Array Value:=(r.map (Value.int .u32)++[Value.int .u32 pc]).toArray
end Cp
structure Cpu(t:TypeId)(w:World)(cb:Nat)(r:List Int)(pc:Int):Prop where
 blk:w.heap[cb]? =some (.cells (Cp.cells r pc) t (0,0))
 regs:Cp.Regs r
 p0:0≤pc
 p1:pc≤4294967295
namespace Cpu
variable {t:TypeId} {w w':World} {cb:Nat} {r:List Int} {pc:Int}
theorem lt(h:Cpu t w cb r pc):cb<w.heap.size:=lt_of_block h.blk
theorem frame(h:Cpu t w cb r pc)(e:w'.heap[cb]? =w.heap[cb]?):Cpu t w' cb r pc:=⟨e.trans h.blk,h.regs,h.p0,h.p1⟩
theorem below(h:Cpu t w cb r pc)(hb:Below w.heap.size w w'):Cpu t w' cb r pc:=h.frame (hb.block _ h.lt)
theorem keep{F:Nat→Prop}(h:Cpu t w cb r pc)(hm:Mod F w w')(hf:¬F cb):Cpu t w' cb r pc:=h.frame (hm.block _ h.lt hf)
theorem size:(Cp.cells r pc).size=r.length+1:=by simp[Cp.cells]
theorem cellReg(h:Cpu t w cb r pc)(n:Nat)(hn:n<16):w.cell? ⟨cb,n,none⟩=some (.int .u32 (Cp.rg r n)):=by
 unfold World.cell?;rw[h.blk];have hl:=h.regs.len;have:n<r.length:=by omega
 simp[Cp.cells,Cp.rg,List.getElem?_append,this]
theorem cellPc(h:Cpu t w cb r pc):w.cell? ⟨cb,16,none⟩=some (.int .u32 pc):=by
 unfold World.cell?;rw[h.blk];have hl:=h.regs.len;simp[Cp.cells,hl]
theorem thaw(h:Cpu t w cb r pc)(n:Nat):w.frozen? ⟨cb,n,none⟩=false:=by
 unfold World.frozen?;rw[h.blk];rfl
theorem setReg(h:Cpu t w cb r pc)(n:Nat)(hn:n<16)(v:Int)(v0:0≤v)(v1:v≤4294967295):Cpu t (w.setCell ⟨cb,n,none⟩ (.int .u32 v)) cb (r.set n v) pc:=by
 refine⟨?_,⟨by rw[List.length_set,h.regs.len],fun x hx=> ?_⟩,h.p0,h.p1⟩
 ·rw[setCell_eq_setRow _ _ _ _ _ _ _ h.blk];have:=setRow_heap w cb _ ((Cp.cells r pc).setIfInBounds n (.int .u32 v)) _ _ h.blk;rw[this];have hl:=h.regs.len;have hn2:n<r.length:=by omega
  congr 2
  unfold Cp.cells
  apply Array.ext'
  simp only[Array.toList_setIfInBounds];rw[List.set_append_left _ _ (by simpa using hn2),List.map_set]
 ·rcases List.mem_or_eq_of_mem_set hx with g|rfl
  ·exact h.regs.bd x g
  ·exact⟨v0,v1⟩
end Cpu
namespace Cp
theorem putG_nat(r:List Int)(n:Nat)(v:Int)(h:¬n=0):putG r n v=r.set n v:=by
 unfold putG;rw[if_neg (by omega),Int.toNat_natCast]
def PutPost(t:TypeId)(w:World)(cb:Nat)(r:List Int)(pc n v:Int)(e:Ending)(w':World):Prop:=e=.returned (.tuple #[])∧Cpu t w' cb (putG r n v) pc∧Mod (fun k=>k=cb) w w'
theorem put{w:World}{cb:Nat}{r:List Int}{pc:Int}(h:Cpu 291 w cb r pc)(n:Nat)(hn:n<16)(v:Int)(v0:0≤v)(v1:v≤4294967295):
  Calls Tryz.prog 184 #[.pointer (some ⟨cb,0,none⟩),.int .u8 n,.int .u32 v] w (PutPost 291 w cb r pc n v):=by
 by_cases h0:n=0
 ·subst h0;have H:=Lh h;clear h;go_enter func184,ntmps184;go_wp2;go_end0;exact⟨rfl,H.out,Mod.refl _ _⟩
 ·have g0:(0:Int)<n:=by omega
  have g1:(n:Int)<16:=by omega
  have hc:=h.cellReg n hn;have hf:=h.thaw n;have HS:=Lh (h.setReg n hn v v0 v1);rw[←putG_nat r n v h0] at HS;clear h;go_enter func184,ntmps184;go_wp2;go_end0;exact⟨rfl,HS.out,Mod.setCell (F:=fun k=>k=cb) (Mod.refl _ _) _ (.inl rfl) _⟩
end Cp
end Go.Proofs.YtjjdjpdmgaipeaaGreat
namespace Go.Proofs.YtjjdjpdmgaipeaaGreat.Word
open Go.RowKit
theorem bit(c:Bool)(w:World):Calls Tryz.prog 391 #[.bool c] w fun e w'=>e=.returned (.int .u32 (one c))∧w=w':=by
 cases c
 all_goals
  go_enter func391,ntmps391;go_wp2;go_ret;exact⟨rfl,rfl⟩
theorem add(a b:Int)(h0:0≤a)(h1:a≤4294967295)(h2:0≤b)(h3:b≤4294967295)(w:World):Calls Tryz.prog 374 #[.int .u32 a,.int .u32 b] w fun e w'=>e=.returned (.int .u32 ((a+b) % 4294967296))∧w=w':=by
 go_enter func374,ntmps374;go_wp2;go_ret;exact⟨rfl,rfl⟩
theorem and(a b:Int)(h0:0≤a)(h1:a≤4294967295)(h2:0≤b)(h3:b≤4294967295)(w:World):Calls Tryz.prog 379 #[.int .u32 a,.int .u32 b] w fun e w'=>e=.returned (.int .u32 (bits .and .u32 a b))∧w=w':=by
 go_enter func379,ntmps379;go_wp2;go_ret;exact⟨rfl,rfl⟩
end Go.Proofs.YtjjdjpdmgaipeaaGreat.Word
namespace Go.Proofs.YtjjdjpdmgaipeaaGreat.Word
open Go.RowKit
def getRel(s:ByteArray)(v i:Value):Prop:=∃(k:Nat) (x:Int),k≤s.size∧i=.int .i64 k∧v=.int .u32 x∧0≤x∧x≤4294967295∧x=getV ((nums s).take k)
theorem get_ok(s:ByteArray)(h1:1≤s.size)(h4:s.size≤4)(w:World):
  Calls Tryz.prog 318 #[.string s] w fun e w'=>e=.returned (.tuple #[.int .u32 (getV (nums s)),.int .i64 0])∧w=w':=by
 go_enter func318,ntmps318;go_wp2;go_loop [2,15,4] (fun v i k=>getRel s v i) (fun _ i _=>s.size - (intOf i).toNat)
 case atStart=>exact⟨0,0,by omega,rfl,rfl,by omega,by omega,rfl⟩
 case round=>
  obtain⟨k,x,hk,rfl,rfl,x0,x1,hx⟩:=hrel
  by_cases hk2:k<s.size
  ·have Hn:=Lh (get_next s k x hk2 h4 hx);have Hb:=Lh (getV_take_bd s (k+1) h4);clear hx;go_wp2;refine⟨⟨k+1,_,by omega,by go_num,rfl, ?_, ?_,Hn.out⟩,by simp[intOf];omega⟩
   ·rw[Hn.out];exact Hb.out.1
   ·rw[Hn.out];exact Hb.out.2
  ·obtain rfl:k=s.size:=by omega
   have Hx:=Lh hx;clear hx;go_wp2;go_ret2;refine⟨ret_ie ?_,rfl⟩;rw[Hx.out,List.take_of_length_le (by rw[nums_length];omega)]
end Go.Proofs.YtjjdjpdmgaipeaaGreat.Word
namespace Go.Proofs.YtjjdjpdmgaipeaaGreat.Ins
open Go.RowKit
def tabX(k n:Nat):Int:=if n≤14 then(if 1≤n∧n<k then 7 else 0) else usesV n
def tabL(k:Nat):Array Value:=((List.range 256).map fun(n:Nat)=>Value.int .u8 (tabX k n)).toArray
theorem tab_size(k:Nat):(tabL k).size=256:=by unfold tabL;simp
theorem tab_at(k n:Nat)(hn:n<256):(tabL k)[n]? =some (.int .u8 (tabX k n)):=by
 unfold tabL;simp[List.getElem?_range hn]
theorem tab_set(k:Nat)(h1:1≤k)(h2:k≤14):(tabL k).setIfInBounds k (.int .u8 7)=tabL (k+1):=by
 apply Array.ext_getElem?
 intro n
 by_cases hn:n<256
 ·rw[Array.getElem?_setIfInBounds,tab_at _ _ hn,tab_at _ _ hn,tab_size]
  by_cases e:k=n
  ·subst e;rw[if_pos rfl,if_pos (by omega)];unfold tabX;rw[if_pos h2,if_pos (by omega)]
  ·rw[if_neg e];unfold tabX
   split
   ·by_cases g:1≤n∧n<k
    ·rw[if_pos g,if_pos (by omega)]
    ·rw[if_neg g,if_neg (by omega)]
   ·rfl
 ·rw[Array.getElem?_eq_none (by rw[Array.size_setIfInBounds,tab_size];omega),Array.getElem?_eq_none (by rw[tab_size];omega)]
theorem tab_last(n:Nat)(hn:n<256):tabX 15 n=usesV n:=by
 unfold tabX
 split
 ·unfold usesV
  by_cases g:1≤n
  ·rw[if_pos (by omega),if_pos (by omega)]
  ·have:n=0:=by omega
   subst this;rfl
 ·rfl
def tabRel(w:World)(si:Value)(wr:World):Prop:=
 ∃k:Nat,1≤k∧k≤15∧si=.int .i64 k∧wr.heap[w.heap.size+1]? =some (.cells (tabL k) 287 (0,0))∧wr.heap[w.heap.size]? =some (.cells Tryz.zeroCells287 287 (0,0))∧Below w.heap.size w wr
theorem tab_one:((((((((((((((((((((((Tryz.zeroCells287.setIfInBounds 17 (Value.int IntKind.u8 11)).setIfInBounds 19 (Value.int IntKind.u8 11)).setIfInBounds 22 (Value.int IntKind.u8 11)).setIfInBounds 23 (Value.int IntKind.u8 11)).setIfInBounds 24 (Value.int IntKind.u8 11)).setIfInBounds 25 (Value.int IntKind.u8 11)).setIfInBounds 26 (Value.int IntKind.u8 11)).setIfInBounds 29 (Value.int IntKind.u8 11)).setIfInBounds 30 (Value.int IntKind.u8 11)).setIfInBounds 32 (Value.int IntKind.u8 9)).setIfInBounds 33 (Value.int IntKind.u8 11)).setIfInBounds 34 (Value.int IntKind.u8 11)).setIfInBounds 35 (Value.int IntKind.u8 14)).setIfInBounds 36 (Value.int IntKind.u8 14)).setIfInBounds 40 (Value.int IntKind.u8 8)).setIfInBounds 41 (Value.int IntKind.u8 9)).setIfInBounds 42 (Value.int IntKind.u8 2)).setIfInBounds 50 (Value.int IntKind.u8 8)).setIfInBounds 43 (Value.int IntKind.u8 14)).setIfInBounds 44 (Value.int IntKind.u8 14)).setIfInBounds 45 (Value.int IntKind.u8 14)).setIfInBounds 46 (Value.int IntKind.u8 14))=tabL 1:=by kernel_rfl
theorem zero_size:Tryz.zeroCells287.size=256:=by kernel_rfl
theorem info_tab:(Tryz.prog.info? 287).map (·.size)=some 256:=by kernel_rfl
theorem table(w:World):Calls Tryz.prog 350 #[] w fun e w'=>e=.returned (.agg (tabL 15))∧Below w.heap.size w w':=by
 have hone:=tab_one;have hz:=zero_size;have hcell:(tabL 1).all (·.oneCell')=true:=by kernel_rfl
 have hcell2:(tabL 15).all (·.oneCell')=true:=by kernel_rfl
 have hst:∀(c:Array Value) (W:World) (g:Nat) (old:Array Value),W.heap[g]? =some (.cells old 287 (0,0))→old.size=256→c.size=256→c.all (·.oneCell')=true→(storeCells ⟨g,0,none⟩ c.toList).run Tryz.prog W=.ok () (W.setRow g c):=fun c W g old hg ho hs h1=>by
  have h:=run_storeCells_from (P:=Tryz.prog) g 287 c.toList 0 old W hg (by simp;omega) (fun v hv=>(Array.all_eq_true_iff_forall_mem.1 h1) v (by simpa using hv));rw[h]
  simp
 have hst1:=hst (tabL 1) ((w.alloc (.cells Tryz.zeroCells287 287)).alloc (.cells Tryz.zeroCells287 287)) (w.heap.size+1) _ (by have h:=heap_alloc_new (w.alloc (.cells Tryz.zeroCells287 287)) (.cells Tryz.zeroCells287 287);rwa [show(w.alloc (.cells Tryz.zeroCells287 287)).heap.size=w.heap.size+1 by simp] at h) hz (tab_size 1) hcell;have Hst:=Lh hst;have Hc2:=Lh hcell2;have hsz:=tab_size 1;clear hcell hcell2 hst hz;go_enter func350,ntmps350;go_wp2;go_loopw [2] (fun si wr=>tabRel w si wr) (fun si _=>15 - (intOf si).toNat)
 case atStart=>
  refine⟨1,by omega,by omega,by go_num, ?_, ?_, ?_⟩
  ·have h:=heap_alloc_new (w.alloc (.cells Tryz.zeroCells287 287)) (.cells Tryz.zeroCells287 287);rw[show(w.alloc (.cells Tryz.zeroCells287 287)).heap.size=w.heap.size+1 by simp] at h;exact setRow_heap _ _ _ _ _ _ h
  ·have h:=heap_alloc_new w (.cells Tryz.zeroCells287 287);rw[setRow_other _ _ _ _ (by omega),Below.heap_alloc _ _ _ (by simp)];exact h
  ·exact below_setRow (((Below.refl _ _).alloc (Nat.le_refl _) _).alloc (by simp) _) (by omega) _
 case round=>
  clear hst1 hone hsz;obtain⟨k,k1,k2,rfl,hb1,hb0,hbel⟩:=hrel;have hlt:=lt_of_block hb1
  by_cases hk:k≤14
  ·have hc:wr.cell? ⟨w.heap.size+1,k,none⟩=some (.int .u8 (tabX k k)):=by
    unfold World.cell?;rw[hb1];exact tab_at k k (by omega)
   have hf:wr.frozen? ⟨w.heap.size+1,k,none⟩=false:=by
    unfold World.frozen?;rw[hb1];rfl
   have Hb1:=Lh hb1;have Hb0:=Lh hb0;have Hbel:=Lh hbel;clear hb1 hb0 hbel;go_wp2;refine⟨⟨k+1,by omega,by omega,by go_num, ?_, ?_, ?_⟩,by simp[intOf];omega⟩
   ·rw[setCell_eq_setRow _ _ _ _ _ _ _ Hb1.out,←tab_set k k1 hk];exact setRow_heap _ _ _ _ _ _ Hb1.out
   ·rw[setCell_eq_setRow _ _ _ _ _ _ _ Hb1.out,setRow_other _ _ _ _ (by omega)];exact Hb0.out
   ·rw[setCell_eq_setRow _ _ _ _ _ _ _ Hb1.out];exact below_setRow Hbel.out (by omega) _
  ·obtain rfl:k=15:=by omega
   have hra:wr.rangeAt (w.heap.size+1) 0 (tabL 15).toList:=fun j v hj=>by
    unfold World.cell?;rw[hb1]
    simpa using hj
   have hinf:(Tryz.prog.info? 287).map (·.size)=some (tabL 15).toList.length:=by rw[Array.length_toList,tab_size];exact info_tab
   have hund:=Tryz.underlying287;have hst2:=Hst.out (tabL 15) wr w.heap.size _ hb0 zero_size (tab_size 15) Hc2.out;have hra2:(wr.setRow w.heap.size (tabL 15)).rangeAt w.heap.size 0 (tabL 15).toList:=fun j v hj=>by
    unfold World.cell?;rw[setRow_heap _ _ _ _ _ _ hb0]
    simpa using hj
   have hsz:=tab_size 15;have hld2:=run_loadVar_mid (P:=Tryz.prog) (wr.setRow w.heap.size (tabL 15)) w.heap.size 0 287 (tabL 15).toList _ hra2 hund rfl hinf;rw[Array.toArray_toList] at hld2;have hbl:=below_setRow hbel (Nat.le_refl _) (tabL 15);have Hbl:=Lh hbl;have Hra:=Lh hra;have Hund:=Lh hund;have Hinf:=Lh hinf;clear hb1 hb0 hbel hbl hra hra2 hinf hund;go_wp2_with (refine wpList_load_mid rfl 287 (.tmp 1) rfl (w.heap.size+1) 0 rfl (tabL 15).toList _ Hra.out Hund.out rfl Hinf.out ?_;rw[Array.toArray_toList]);refine bodyPost_ret (v:=.agg (tabL 15)) ?_ rfl ⟨rfl,Hbl.out⟩;simp[results,Tryz.results350];exact hld2
theorem tab_op(op:Int)(h0:0≤op)(h1:op≤255):(tabL 15)[op.toNat]? =some (.int .u8 (usesV op)):=by
 obtain⟨n,rfl⟩:=Int.eq_ofNat_of_zero_le h0;rw[Int.toNat_natCast,tab_at 15 n (by omega),tab_last n (by omega)]
end Go.Proofs.YtjjdjpdmgaipeaaGreat.Ins
namespace Go.Proofs.YtjjdjpdmgaipeaaGreat.Ins
open Go.RowKit Word
theorem fits(u n bit:Int)(u0:0≤u)(u1:u≤255)(n0:0≤n)(n1:n≤255)(b0:0≤bit)(b1:bit≤255)(b:Nat)(w:World)(hc:w.cell? ⟨b,0,none⟩=some (.int .u8 u)):
  Calls Tryz.prog 351 #[.int .u8 n,.int .u8 bit,.pointer (some ⟨b,0,none⟩)] w fun e w'=>e=.returned (.bool (fitV n (bits .and .u8 u bit != 0)))∧w=w':=by
 unfold fitV
 by_cases hn:n=0
 ·subst hn;go_enter func351,ntmps351;go_wp2;go_ret;exact⟨rfl,rfl⟩
 ·have h1:(n == 0)=false:=by simpa using hn
  cases h2:(bits .and .u8 u bit != 0) with
  |true=>
   go_enter func351,ntmps351;go_wp2;go_ret;exact⟨by simp[h1],rfl⟩
  |false=>
   go_enter func351,ntmps351;go_wp2;go_ret;exact⟨by simp[h1],rfl⟩
theorem index_tab(op:Int)(h0:0≤op)(h1:op≤255)(W:World):(Instr.index 287 (.agg (tabL 15)) (.int .u8 op)).run Tryz.prog W=.ok (.int .u8 (usesV op)) W:=by
 have h:=tab_op op h0 h1;have hu:=Tryz.underlying287;simp[Instr.index,run_underlying hu,asIntOf,go_sem];rw[if_pos ⟨h0,by omega⟩,h];rfl
theorem cells5(w:World)(a b c d e:Value)(t:TypeId)(i:Nat):(w.alloc (.cells #[a,b,c,d,e] t)).cell? ⟨w.heap.size,0+i,none⟩=[a,b,c,d,e][i]? :=by
 rw[World.cell?_alloc_mark];simp
theorem check(x:Ins)(hx:x.ok)(w:World):Calls Tryz.prog 328 #[x.val] w fun e w'=>e=.returned (.int .i64 (encE x))∧Below w.heap.size w w':=by
 obtain⟨op,d,a,b,imm⟩:=x;obtain⟨o0,o1,d0,d1,a0,a1,b0,b1,i0,i1⟩:=hx;simp only at o0 o1 d0 d1 a0 a1 b0 b1 i0 i1;have hidx:=index_tab op o0 o1;have hE:encE ⟨op,d,a,b,imm⟩=if(usesV op != 0&&fitV d (bits .and .u8 (usesV op) 1 != 0)&&fitV a (bits .and .u8 (usesV op) 2 != 0)&&fitV b (bits .and .u8 (usesV op) 4 != 0)&&((bits .and .u8 (usesV op) 8 != 0)||imm == 0)) then 0 else 2:=rfl
 generalize encE ⟨op,d,a,b,imm⟩=E at*;have HE:=Lh hE;clear hE;unfold val;simp only;go_enter func328,ntmps328;go_wp2;generalize hW:w.alloc (.cells #[.int .u8 op,.int .u8 d,.int .u8 a,.int .u8 b,.int .u32 imm] 213)=W at*;have hbW:Below w.heap.size w W:=by rw[←hW];exact(Below.refl _ _).alloc (Nat.le_refl _) _
 have hcs:∀i,W.cell? ⟨w.heap.size,0+i,none⟩=[Value.int .u8 op,.int .u8 d,.int .u8 a,.int .u8 b,.int .u32 imm][i]? :=fun i=>by rw[←hW];exact cells5 w _ _ _ _ _ _ i
 have hop:W.cell? ⟨w.heap.size,0,none⟩=some (.int .u8 op):=hcs 0;have hlt:w.heap.size<W.heap.size:=by rw[←hW];simp
 have hcs1:=hcs 1;have hcs2:=hcs 2;have hcs3:=hcs 3;have hcs4:=hcs 4;have HB:=Lh hbW;have HC:=Lh (⟨hcs1,hcs2,hcs3,hcs4⟩:_∧_∧_∧_);clear hcs hcs1 hcs2 hcs3 hcs4 hW hbW;have hopA:∀o,(W.alloc o).cell? ⟨w.heap.size,0,none⟩=some (.int .u8 op):=fun o=>(World.cell?_of_block (w:=W) (Below.heap_alloc _ _ _ hlt)).trans hop
 have hopB:∀w0 w1:World,Below w0.heap.size w0 w1→w0.cell? ⟨w.heap.size,0,none⟩=some (.int .u8 op)→W.heap.size≤w0.heap.size→w1.cell? ⟨w.heap.size,0,none⟩=some (.int .u8 op):=fun w0 w1 hb h hl=>(World.cell?_of_block (w:=w0) (hb.block _ (by simp only;omega))).trans h
 have hopD:∀w0 w1:World,Below w0.heap.size w0 w1→w0.cell? ⟨w.heap.size,0,none⟩=some (.int .u8 op)→W.heap.size≤w0.heap.size→∀o,(w1.alloc o).cell? ⟨w.heap.size,0,none⟩=some (.int .u8 op):=fun w0 w1 hb h hl o=>(World.cell?_of_block (w:=w1) (Below.heap_alloc _ _ _ (by have:=hb.size;simp only;omega))).trans (hopB w0 w1 hb h hl)
 have hopV:∀w0 w1:World,Below w0.heap.size w0 w1→∀v,w0.cell? ⟨W.heap.size,0,none⟩=some v→W.heap.size<w0.heap.size→w1.cell? ⟨W.heap.size,0,none⟩=some v:=fun w0 w1 hb v h hl=>(World.cell?_of_block (w:=w0) (hb.block _ (by simp only;omega))).trans h
 have hopF:∀w0 w1:World,Below w0.heap.size w0 w1→w0.frozen? ⟨W.heap.size,0,none⟩=false→W.heap.size<w0.heap.size→w1.frozen? ⟨W.heap.size,0,none⟩=false:=fun w0 w1 hb h hl=>by
  unfold World.frozen? at h⊢;rw[hb.block _ (by simp only;omega)];exact h
 have hopZ:∀x:Value,(W.alloc (.cells #[x] 5)).cell? ⟨W.heap.size,0,none⟩=some x:=fun x=>by rw[World.cell?_alloc_mark];rfl
 have hopG:∀x:Value,(W.alloc (.cells #[x] 5)).frozen? ⟨W.heap.size,0,none⟩=false:=fun x=>by unfold World.frozen?;rw[heap_alloc_new];rfl
 go_upto_region 1 with fail;go_cut [3] (fun s3 wx=>∃B:Nat,s3=.pointer (some ⟨B,0,none⟩)∧W.heap.size≤B∧wx.cell? ⟨B,0,none⟩=some (.int .u8 (usesV op))∧Below W.heap.size W wx)
 case first=>
  go_region_with (
          go_at_call 350;refine(table _).mono ?_;rintro e w1 ⟨rfl,hb1⟩;have hop1:=hopB _ _ hb1 (by first|exact hop|exact hopA _) (by first|exact Nat.le_refl _|(simp;done)|(simp;omega));have hop1A:=hopD _ _ hb1 (by first|exact hop|exact hopA _) (by first|exact Nat.le_refl _|(simp;done)|(simp;omega));have hbW1:Below W.heap.size W w1:=below_th (b:=_) (by first|exact Below.refl _ _|exact(Below.refl _ _).drew|exact(Below.refl _ _).alloc (Nat.le_refl _) _|exact((Below.refl _ _).alloc (Nat.le_refl _) _).drew|exact((Below.refl _ _).drew.alloc (Nat.le_refl _) _)|exact(((Below.refl _ _).drew.alloc (Nat.le_refl _) _)).drew) hb1;try (have hv1:=hopV _ _ hb1 _ (hopZ _) (by simp);have hv2:=hopF _ _ hb1 (hopG _) (by simp)))
  all_goals go_wp2_with fail
  all_goals go_meet
  all_goals first
   |exact⟨_,rfl,hbW1.size,by first|(rw[World.cell?_alloc_mark];rfl)|(rw[World.cell?_drew,World.cell?_alloc_mark];rfl),by first|exact hbW1.alloc hbW1.size _|exact(hbW1.alloc hbW1.size _).drew⟩
   |exact⟨_,rfl,Nat.le_refl _,World.cell?_setCell_same _ _ _ hv1,hbW1.setCell (Nat.le_refl _) _⟩
   |trace_state
 case rest=>
  obtain⟨B,rfl,hB,hcb,hbw⟩:=hcut;obtain⟨hcs1,hcs2,hcs3,hcs4⟩:=HC.out;have kp:∀j,wc.cell? ⟨w.heap.size,j,none⟩=W.cell? ⟨w.heap.size,j,none⟩:=fun j=>World.cell?_of_block (w:=W) (hbw.block _ hlt)
  have k1:wc.cell? ⟨w.heap.size,1,none⟩=some (.int .u8 d):=(kp 1).trans hcs1;have k2:wc.cell? ⟨w.heap.size,2,none⟩=some (.int .u8 a):=(kp 2).trans hcs2;have k3:wc.cell? ⟨w.heap.size,3,none⟩=some (.int .u8 b):=(kp 3).trans hcs3;have k4:wc.cell? ⟨w.heap.size,4,none⟩=some (.int .u32 imm):=(kp 4).trans hcs4;have hu:=usesV_bd op;have H1:=Lh (fits (usesV op) d 1 hu.1 hu.2 d0 d1 (by omega) (by omega) B wc hcb);have H2:=Lh (fits (usesV op) a 2 hu.1 hu.2 a0 a1 (by omega) (by omega) B wc hcb);have H3:=Lh (fits (usesV op) b 4 hu.1 hu.2 b0 b1 (by omega) (by omega) B wc hcb);have HR:=Lh (HB.out.trans (hbw.mono HB.out.size));have hmf:∀(fn:Fn) (first cap:Array Value) (w:World),(Instr.makeFunc fn first cap).run Tryz.prog w=.ok (.func fn first cap) w:=fun _ _ _ _=>rfl
  clear kp hcs1 hcs2 hcs3 hcs4 hbw hB HC HB hopA hopB hopD hopV hopF hopZ hopG hidx hop hlt;generalize usesV op=u at*;generalize fitV d (bits .and .u8 u 1 != 0)=fd at*;generalize fitV a (bits .and .u8 u 2 != 0)=fa at*;generalize fitV b (bits .and .u8 u 4 != 0)=fb at*;cases hu0:(u == 0) with
  |true=>
   have:(u != 0)=false:=by rw[bne,hu0];rfl
   have HT:=Lh this;clear this;go_wp2;go_ret;exact⟨ret_int (by rw[HE.out,HT.out];first|rfl|(rw[hi8];rfl)|(rw[hi8,him];rfl)),HR.out⟩
  |false=>
   have:(u != 0)=true:=by rw[bne,hu0];rfl
   have HT:=Lh this;clear this;cases fd with
   |false=>
    go_wp2_with (go_at_call 351;(with_reducible refine H1.out.mono ?_);rintro e w2 ⟨rfl,rfl⟩);go_ret;exact⟨ret_int (by rw[HE.out,HT.out];first|rfl|(rw[hi8];rfl)|(rw[hi8,him];rfl)),HR.out⟩
   |true=>
    cases fa with
    |false=>
     go_wp2_with (go_at_call 351;first|((with_reducible refine H1.out.mono ?_);rintro e w2 ⟨rfl,rfl⟩)|((with_reducible refine H2.out.mono ?_);rintro e w2 ⟨rfl,rfl⟩));go_ret;exact⟨ret_int (by rw[HE.out,HT.out];first|rfl|(rw[hi8];rfl)|(rw[hi8,him];rfl)),HR.out⟩
    |true=>
     cases fb with
     |false=>
      go_wp2_with (go_at_call 351;first|((with_reducible refine H1.out.mono ?_);rintro e w2 ⟨rfl,rfl⟩)|((with_reducible refine H2.out.mono ?_);rintro e w2 ⟨rfl,rfl⟩)|((with_reducible refine H3.out.mono ?_);rintro e w2 ⟨rfl,rfl⟩));go_ret;exact⟨ret_int (by rw[HE.out,HT.out];first|rfl|(rw[hi8];rfl)|(rw[hi8,him];rfl)),HR.out⟩
     |true=>
      cases hi8:(bits .and .u8 u 8 != 0) with
      |true=>
       go_wp2_with (go_at_call 351;first|((with_reducible refine H1.out.mono ?_);rintro e w2 ⟨rfl,rfl⟩)|((with_reducible refine H2.out.mono ?_);rintro e w2 ⟨rfl,rfl⟩)|((with_reducible refine H3.out.mono ?_);rintro e w2 ⟨rfl,rfl⟩));go_ret;exact⟨ret_int (by rw[HE.out,HT.out];first|rfl|(rw[hi8];rfl)|(rw[hi8,him];rfl)),HR.out⟩
      |false=>
       cases him:(imm == 0) with
       |true=>
        go_wp2_with (go_at_call 351;first|((with_reducible refine H1.out.mono ?_);rintro e w2 ⟨rfl,rfl⟩)|((with_reducible refine H2.out.mono ?_);rintro e w2 ⟨rfl,rfl⟩)|((with_reducible refine H3.out.mono ?_);rintro e w2 ⟨rfl,rfl⟩));go_ret;exact⟨ret_int (by rw[HE.out,HT.out];first|rfl|(rw[hi8];rfl)|(rw[hi8,him];rfl)),HR.out⟩
       |false=>
        go_wp2_with (go_at_call 351;first|((with_reducible refine H1.out.mono ?_);rintro e w2 ⟨rfl,rfl⟩)|((with_reducible refine H2.out.mono ?_);rintro e w2 ⟨rfl,rfl⟩)|((with_reducible refine H3.out.mono ?_);rintro e w2 ⟨rfl,rfl⟩));go_ret;exact⟨ret_int (by rw[HE.out,HT.out];first|rfl|(rw[hi8];rfl)|(rw[hi8,him];rfl)),HR.out⟩
end Go.Proofs.YtjjdjpdmgaipeaaGreat.Ins
namespace Go.Proofs.YtjjdjpdmgaipeaaGreat.Ins
open Go.RowKit Word
end Go.Proofs.YtjjdjpdmgaipeaaGreat.Ins
