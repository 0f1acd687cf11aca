/- Made06, ReadA, TskG, TskGW, Made21, KdoG, RdP, FzB, FzN, FzR, FzM, FzP, RdFz in one text. -/
import Derived.Test.YtehihecknhcggaaGreatFtGraG
import Derived.Test.YtehihecknhcggaaGreatFtRspW
import Derived.Deep.RegionHeld3
import Derived.Deep.Slices
import Derived.Deep.Fields
import Derived.ChangeSame
import Derived.SizedLaws
import Derived.ChangeArms
import Derived.Below
import Derived.OpenShut
import Derived.Test.YtehihecknhcggaaGreatFtKnG
import Derived.Test.YtehihecknhcggaaGreatFtEnvW
import Derived.Test.YtehihecknhcggaaGreatFtCor
import Derived.StillTailTactics
import Derived.Maps.OwnSet
import Derived.Shelf.Strings.Builder1
import Derived.Shelf.Strings.OnBuilder
import Derived.Shelf.Small.Wraps
import Derived.Shelf.Strings.BuilderF
import Derived.Shelf.Strings.BuilderK
import Derived.Shelf.LaysM
import Derived.Test.YtehihecknhcggaaGreatProg
import Derived.Test.YtehihecknhcggaaGreatFtBase
import Derived.Test.YtehihecknhcggaaGreatFtPag
import Derived.LoopTactic
import Derived.Test.YtehihecknhcggaaGreatFtZa
set_option linter.unusedVariables false
set_option linter.unusedSimpArgs false
set_option maxRecDepth 100000
set_option maxHeartbeats 16000000
open Go.Proofs.Tryz
namespace Go.Proofs.YtehihecknhcggaaGreat
open Go.RowKit Word
namespace Cp
def RowN(k:IntKind)(w:World)(a:Option Addr)(n:Nat)(f:Nat→Int):Prop:=0<n→∃b off,a=some ⟨b,off,none⟩∧b<w.heap.size∧∀i,i<n→w.cell? ⟨b,off+i,none⟩=some (.int k (f i))
structure St where
 ra:Option Addr
 rn:Nat
 rcap:Nat
 rf:Nat→Int
 pc:Int
 pa:Option Addr
 pn:Nat
 pcap:Nat
 pf:Nat→Int
 at':Int
 ca:Option Addr
 cn:Nat
 ccap:Nat
 cf:Nat→Ins
 wh:Int
 text:ByteArray
def St.cells(x:St):Array Value:= #[.slice x.ra x.rn x.rcap,.int .u32 x.pc,.slice x.pa x.pn x.pcap,.int .u16 x.at',.slice x.ca x.cn x.ccap,.int .u16 x.wh,.string x.text]
structure St.ok(w:World)(x:St):Prop where
 rrow:RowN .u32 w x.ra x.rn x.rf
 rbd:∀i,i<x.rn→0≤x.rf i∧x.rf i≤4294967295
 rlen:x.rn≤9223372036854775807
 p0:0≤x.pc
 p1:x.pc≤4294967295
 prow:RowN .u8 w x.pa x.pn x.pf
 pbd:∀i,i<x.pn→0≤x.pf i∧x.pf i≤255
 plen:x.pn≤16
 a0:0≤x.at'
 a1:x.at'≤65535
 crow:Code w x.ca x.cn x.cf
 cbd:∀i,i<x.cn→(x.cf i).ok
 clen:x.cn≤1000
 w0:0≤x.wh
 w1:x.wh≤65535
 tlen:x.text.size≤65536
def St.regs(x:St):List Int:=regsK x.rf (min x.rn 16)
def St.pgs(x:St):List Pg:=madeA x.pf x.pn x.at' (strOfNums (textL x.cf x.cn)) x.wh x.text
def MadePost(w:World)(x:St)(e:Ending)(w':World):Prop:=
 ∃(cb sb mb:Nat) (A:List Pg) (db rb:Nat) (lv:Value) (R:List Rp),e=.returned (.tuple #[.pointer (some ⟨cb,0,none⟩),.pointer (some ⟨sb,0,none⟩),.pointer (some ⟨db,0,none⟩),.pointer (some ⟨rb,0,none⟩),.bool true])∧
  Duo w w' cb sb mb A x.regs x.pc db rb lv R x.regs x.pc∧cores A=cores (rpgs R)∧cores A=cores x.pgs
structure StBox(w:World)(b:Nat)(x:St):Prop where
 blk:w.heap[b]? =some (.cells x.cells 88 (0,0))
theorem StBox.cells{w:World}{b:Nat}{x:St}(h:StBox w b x):w.cell? ⟨b,0,none⟩=some (.slice x.ra x.rn x.rcap)∧w.cell? ⟨b,1,none⟩=some (.int .u32 x.pc)∧w.cell? ⟨b,2,none⟩=some (.slice x.pa x.pn x.pcap)∧w.cell? ⟨b,3,none⟩=some (.int .u16 x.at')∧w.cell? ⟨b,4,none⟩=some (.slice x.ca x.cn x.ccap)∧w.cell? ⟨b,5,none⟩=some (.int .u16 x.wh)∧w.cell? ⟨b,6,none⟩=some (.string x.text):=by
 unfold World.cell?;rw[h.blk];exact⟨rfl,rfl,rfl,rfl,rfl,rfl,rfl⟩
theorem StBox.below{w w':World}{b:Nat}{x:St}{B:Nat}(h:StBox w b x)(hb:Below B w w')(hB:b<B):StBox w' b x:=⟨(hb.block _ hB).trans h.blk⟩
def m1Rel(w0:World)(x:St)(cb sb mb db rb:Nat)(vi:Value)(wr:World):Prop:=
 ∃k:Nat,k≤x.rn∧k≤16∧vi=.int .i64 k∧Duo w0 wr cb sb mb [] (regsK x.rf k) x.pc db rb (.slice none 0 0) [] (regsK x.rf k) x.pc
def m2Rel(w0:World)(x:St)(cb sb mb db rb:Nat)(vi:Value)(wr:World):Prop:=
 ∃(k:Nat) (A:List Pg) (lv:Value) (R:List Rp),k≤x.pn∧vi=.int .i64 k∧Duo w0 wr cb sb mb A x.regs x.pc db rb lv R x.regs x.pc∧cores A=cores (rpgs R)∧cores A=cores (pgsK x.pf k)
theorem made(w:World)(x:St)(hx:x.ok w):Calls Tryz.prog 64 #[.agg x.cells] w (MadePost w x):=by
 have HFin:Hid (∀(cb sb mb:Nat) (A:List Pg) (db rb:Nat) (lv:Value) (R:List Rp) w',Duo w w' cb sb mb A x.regs x.pc db rb lv R x.regs x.pc→cores A=cores (rpgs R)→cores A=cores x.pgs→MadePost w x (.returned (.tuple #[.pointer (some ⟨cb,0,none⟩),.pointer (some ⟨sb,0,none⟩),.pointer (some ⟨db,0,none⟩),.pointer (some ⟨rb,0,none⟩),.bool true])) w'):=
  Lh fun cb sb mb A db rb lv R w' h1 h2 h3=>⟨cb,sb,mb,A,db,rb,lv,R,rfl,h1,h2,h3⟩
 generalize MadePost w x=PQ at*;have HX:=Lh hx;have hp0:=hx.p0;have hp1:=hx.p1;generalize hW:w.alloc (.cells x.cells 88)=W;have hb:Below w.heap.size w W:=by rw[←hW];exact Ba _
 have hbx:StBox W w.heap.size x:=by rw[←hW];exact⟨heap_alloc_new w _⟩
 have hsz:W.heap.size=w.heap.size+1:=by rw[←hW];simp
 have HB:=Lh hb;have HBx:=Lh hbx;obtain⟨b0,b1,b2,b3,b4,b5,b6⟩:=hbx.cells;clear hb hbx hx;unfold St.cells at hW⊢;go_enter func64,ntmps64;go_wp2_with fail;refine(new x.pc hp0 hp1 W).mono ?_;rintro e w1 ⟨rfl,hc1,hb1⟩;have hz1:=hb1.size;have HC1:=Lh hc1;have hlt1:=hc1.lt;have HB1:=Lh hb1;have HBx1:=Lh (HBx.out.below hb1 (by omega));clear hc1 hb1 b0 b1 b2 b3 b4 b5 b6;go_wp2_with fail;refine(Sp.new w1).mono ?_;rintro e w2 ⟨rfl,hs2,hb2,hz2⟩;have hz2':=hb2.size;have HS2:=Lh hs2;have HB2:=Lh (HB1.out.trans (hb2.mono HB1.out.size));have HC2:=Lh (HC1.out.below hb2);have hbx2:=HBx1.out.below hb2 (by omega);obtain⟨b0,b1,b2,b3,b4,b5,b6⟩:=hbx2.cells;have HBx2:=Lh hbx2;clear hs2 hb2 hbx2 HBx1 HC1 HB1;go_wp2;have hD:Duo W ((w2.alloc (.cells #[.int .u32 0,.int .u32 0,.int .u32 0,.int .u32 0,.int .u32 0,.int .u32 0,.int .u32 0,.int .u32 0,.int .u32 0,.int .u32 0,.int .u32 0,.int .u32 0,.int .u32 0,.int .u32 0,.int .u32 0,.int .u32 0,.int .u32 x.pc] 199)).alloc (.cells #[.slice none 0 0] 190))
   (w.heap.size+1) (w1.heap.size+1) w1.heap.size [] (List.replicate 16 0) x.pc (w1.heap.size+2) (w1.heap.size+2+1) (.slice none 0 0) [] (List.replicate 16 0) x.pc:=by
  have hb4:Below w2.heap.size w2 ((w2.alloc (.cells #[.int .u32 0,.int .u32 0,.int .u32 0,.int .u32 0,.int .u32 0,.int .u32 0,.int .u32 0,.int .u32 0,.int .u32 0,.int .u32 0,.int .u32 0,.int .u32 0,.int .u32 0,.int .u32 0,.int .u32 0,.int .u32 0,.int .u32 x.pc] 199)).alloc (.cells #[.slice none 0 0] 190)):=(Ba _).alloc (by simp) _;have hl:=HS2.out.lt (.inl rfl);have hc1:=HC2.out.lt;have hd:Cpu 199 ((w2.alloc (.cells #[.int .u32 0,.int .u32 0,.int .u32 0,.int .u32 0,.int .u32 0,.int .u32 0,.int .u32 0,.int .u32 0,.int .u32 0,.int .u32 0,.int .u32 0,.int .u32 0,.int .u32 0,.int .u32 0,.int .u32 0,.int .u32 0,.int .u32 x.pc] 199)).alloc (.cells #[.slice none 0 0] 190)) (w1.heap.size+2) (List.replicate 16 0) x.pc:=by
   refine⟨?_,⟨rfl,fun x hx=> ?_⟩,hp0,hp1⟩
   ·rw[←hz2,Below.heap_alloc _ _ _ (by simp)];exact heap_alloc_new w2 _
   ·have:=List.eq_of_mem_replicate hx;omega
  have hr:=heap_alloc_new (w2.alloc (.cells #[.int .u32 0,.int .u32 0,.int .u32 0,.int .u32 0,.int .u32 0,.int .u32 0,.int .u32 0,.int .u32 0,.int .u32 0,.int .u32 0,.int .u32 0,.int .u32 0,.int .u32 0,.int .u32 0,.int .u32 0,.int .u32 0,.int .u32 x.pc] 199)) (.cells #[.slice none 0 0] 190);rw[show(w2.alloc (.cells #[.int .u32 0,.int .u32 0,.int .u32 0,.int .u32 0,.int .u32 0,.int .u32 0,.int .u32 0,.int .u32 0,.int .u32 0,.int .u32 0,.int .u32 0,.int .u32 0,.int .u32 0,.int .u32 0,.int .u32 0,.int .u32 0,.int .u32 x.pc] 199)).heap.size=w1.heap.size+2+1 by simp[hz2]] at hr;have fa:∀k,Spc.foot (w1.heap.size+1) w1.heap.size [] k→k=w1.heap.size+1∨k=w1.heap.size:=fun k hk=>by
   rcases hk with g|g|⟨p,g,_⟩
   ·exact .inl g
   ·exact .inr g
   ·cases g
  have fr:∀k,Rsp.foot (w1.heap.size+2+1) (.slice none 0 0) [] k→k=w1.heap.size+2+1:=fun k hk=>by
   rcases hk with g|g|⟨q,g,_⟩
   ·exact g
   ·cases g
   ·cases g
  have hcp:=HC2.out.below hb4;rw[hsz] at hcp;refine⟨hcp,hd,⟨HS2.out.below hb4 fun _ hk=>HS2.out.lt hk,rsp_nil hr,fun k hk g=> ?_⟩,HB2.out.trans (hb4.mono HB2.out.size),by omega,by omega,fun k hk=> ?_,fun k hk=> ?_,by omega,fun g=> ?_,fun g=> ?_,fun g=> ?_,fun g=> ?_⟩
  ·have:=fa k hk;have:=fr k g;omega
  ·have:=fa k hk;omega
  ·have:=fr k hk;omega
  ·have:=fa _ g;omega
  ·have:=fr _ g;omega
  ·have:=fa _ g;omega
  ·have:=fr _ g;omega
 rw[←regsK_zero x.rf] at hD;have HD:=Lh hD;have hwl:w.heap.size<W.heap.size:=by omega
 clear hD b0 b1 b2 b3 b4 b5 b6 HBx2 HC2 HB2 HS2 hz2 hz2' hz1 hlt1 hsz hW;have HRow:Hid (∀wr,Below W.heap.size W wr→RowN .u32 wr x.ra x.rn x.rf∧RowN .u8 wr x.pa x.pn x.pf∧Code wr x.ca x.cn x.cf∧StBox wr w.heap.size x):=Lh fun wr hb=>by
  have hbw:=HB.out.trans (hb.mono HB.out.size);refine⟨fun hn=> ?_,fun hn=> ?_,HX.out.crow.below hbw,HBx.out.below hb hwl⟩
  ·obtain⟨b,off,e,hbl,hc⟩:=HX.out.rrow hn;exact⟨b,off,e,Nat.lt_of_lt_of_le hbl hbw.size,fun i hi=>(World.cell?_of_block (w:=w) (hbw.block b hbl)).trans (hc i hi)⟩
  ·obtain⟨b,off,e,hbl,hc⟩:=HX.out.prow hn;exact⟨b,off,e,Nat.lt_of_lt_of_le hbl hbw.size,fun i hi=>(World.cell?_of_block (w:=w) (hbw.block b hbl)).trans (hc i hi)⟩
 generalize w.heap.size+1=cb at*;generalize w1.heap.size+1=sb at*;generalize w1.heap.size+2+1=rb at*;generalize w1.heap.size+2=db at*;generalize w1.heap.size=mb at*;go_loopw [11] (fun vi wr=>m1Rel W x cb sb mb db rb vi wr) (fun vi _=>16 - (intOf vi).toNat)
 case atStart=>exact⟨0,Nat.zero_le _,by omega,by go_num,HD.out⟩
 case round=>
  clear HD;obtain⟨k,hk1,hk2,rfl,hd⟩:=hrel;obtain⟨hrr,_,_,hbx⟩:=HRow.out wr hd.bel;obtain⟨b0,b1,b2,b3,b4,b5,b6⟩:=hbx.cells;have hrl:=HX.out.rlen;have HDk:=Lh hd
  by_cases hk34:k<x.rn∧k<16
  ·obtain⟨hk3,hk4⟩:=hk34
   ·have hv:=HX.out.rbd k hk3;obtain⟨b,off,hra,hbl,hcl⟩:=hrr (by omega);have hcv:=hcl k hk3;rw[hra] at b0;have hks:=regsK_succ x.rf k hk4;have HR2:Hid (∀w4,Duo W w4 cb sb mb [] (regsK x.rf (k+1)) x.pc db rb (.slice none 0 0) [] (regsK x.rf k) x.pc→w4.cell? ⟨w.heap.size,0,none⟩=some (.slice (some ⟨b,off,none⟩) x.rn x.rcap)∧w4.cell? ⟨b,off+k,none⟩=some (.int .u32 (x.rf k))):=Lh fun w4 h4=>by
     obtain⟨hrr4,_,_,hbx4⟩:=HRow.out w4 h4.bel;obtain⟨b',off',hra',_,hcl'⟩:=hrr4 (by omega);rw[hra] at hra';cases hra';exact⟨hra▸hbx4.cells.1,hcl' k hk3⟩
    have Hks:=Lh hks;have Hv:=Lh hv;clear hd hrr hbx hcl hks hv hra;generalize x.rf k=v at*;go_wp2_with fail;refine(setReg_ok HDk.out.cp k hk4 v Hv.out.1 Hv.out.2).mono ?_;rintro e w4 ⟨rfl,hc4,hm4⟩;rw[Hks.out] at hc4;have hd4:=HDk.out.setC hc4 hm4;obtain⟨e0,e1⟩:=HR2.out w4 hd4;have HD4:=Lh hd4;clear hc4 hm4 hd4 HDk b0 b1 b2 b3 b4 b5 b6 hcv
    by_cases hk0:k=0
    ·subst hk0;go_wp2;refine⟨⟨1,by omega,by omega,by go_num, ?_⟩,by simp[intOf]⟩;exact HD4.out
    ·have hk5:decide (0<(k:Int))=true:=decide_eq_true (by omega);have hk6:(k:Int)<16:=by omega
     have g1:=HD4.out.dp.cellReg k hk4;have g2:=HD4.out.dp.thaw k;have HS4:=Lh (HD4.out.dp.setReg k hk4 v Hv.out.1 Hv.out.2);rw[←putG_nat _ _ _ hk0,Hks.out] at HS4;go_wp2_with fail;go_region
     all_goals
      go_wp2;refine⟨⟨k+1,by omega,by omega,by go_num, ?_⟩,by simp[intOf];omega⟩;exact(HD4.out.setD HS4.out (Mod.setCell (F:=fun j=>j=db) (Mod.refl _ _) _ (.inl rfl) _)).below (Br.drew)
  ·have hkm:k=min x.rn 16:=by omega
   have hreg:regsK x.rf k=x.regs:=by unfold St.regs;rw[hkm]
   have hor:¬(k<x.rn)∨((k:Int)<x.rn∧¬((k:Int)<16)):=by omega
   rw[hreg] at hd;have HD:=Lh hd;clear hd hrr hbx HDk hreg hkm hk34 hk1 hk2;rcases hor with hg|⟨hg,hg2⟩
   all_goals
    go_wp2_with fail;go_loopw [12] (fun vi wr=>m2Rel W x cb sb mb db rb vi wr) (fun vi _=>x.pn - (intOf vi).toNat)
    case atStart=>exact⟨0,[],_,[],Nat.zero_le _,by go_num,HD.out,rfl,rfl⟩
    case round=>
     clear HD b0 b1 b2 b3 b4 b5 b6;obtain⟨j,A,lv,R,hj,rfl,hd,he,hk⟩:=hrel;obtain⟨_,hpr,hcr,hbx⟩:=HRow.out _ hd.bel;obtain⟨b0,b1,b2,b3,b4,b5,b6⟩:=hbx.cells;have HDk:=Lh hd;have HCr:=Lh hcr;have HE:=Lh he;have HK:=Lh hk;have hpn:=HX.out.plen;clear hd he hk hbx hcr
     by_cases hj2:j<x.pn
     ·have hv:=HX.out.pbd j hj2;obtain⟨b,off,hpa,hbl,hcl⟩:=hpr (by omega);have hcv:=hcl j hj2;rw[hpa] at b2;have HR2:Hid (∀w4 A4 lv4 R4,Duo W w4 cb sb mb A4 x.regs x.pc db rb lv4 R4 x.regs x.pc→w4.cell? ⟨w.heap.size,2,none⟩=some (.slice (some ⟨b,off,none⟩) x.pn x.pcap)∧w4.cell? ⟨b,off+j,none⟩=some (.int .u8 (x.pf j))):=Lh fun w4 A4 lv4 R4 h4=>by
       obtain⟨_,hpr4,_,hbx4⟩:=HRow.out w4 h4.bel;obtain⟨b',off',hpa',_,hcl'⟩:=hpr4 (by omega);rw[hpa] at hpa';cases hpa';exact⟨hpa▸hbx4.cells.2.2.1,hcl' j hj2⟩
      have hw1:IntKind.u32.wrap (j:Int)=j:=by rw[IntKind.wrap_u32'];omega
      have hw2:IntKind.u32.wrap ((j:Int)*256)=j*256:=by rw[IntKind.wrap_u32'];omega
      have hw3:(j:Int) % 4294967296=j:=by omega
      have hw4:(j:Int)*256 % 4294967296=j*256:=by omega
      have HPs:Hid (pgsK x.pf (j+1)=if x.pf j<8 then Sp.mapA (pgsK x.pf j) (j*256) 0 (x.pf j) else pgsK x.pf j):=Lh rfl;have HFree:Hid (x.pf j<8→Sp.mapE (pgsK x.pf j) (j*256) (x.pf j)=0):=Lh fun h8=>pgsK_free x.pf j (by omega) hv.1 h8
      have Hv:=Lh hv;clear hcl hv hpa hpr;generalize x.pf j=v at*
      by_cases hv8:v<8
      ·have hE1:Sp.mapE A (j*256) v=0:=by rw[Cor.mapE HK.out];exact HFree.out hv8
       have hE2:Sp.mapE (rpgs R) (j*256) v=0:=by rw[←Cor.mapE HE.out];exact hE1
       go_wp2_with fail;refine(Sp.s_map HDk.out.pair.sp (j*256) v (by omega) (by omega) Hv.out.1 Hv.out.2).mono ?_;rintro e w4 ⟨blk,rfl,hs4⟩;rw[hE1];have hd4:=HDk.out.left hs4;obtain⟨e0,e1⟩:=HR2.out w4 _ _ _ hd4;have HD4:=Lh hd4;clear hs4 hd4 HDk b0 b1 b2 b3 b4 b5 b6 hcv;go_wp2_with fail;refine(Rs.map_any HD4.out.pair.rp (j*256) v (by omega) (by omega) Hv.out.1 Hv.out.2).mono ?_;rintro e w5 ⟨lv5,R5,blk5,rfl,hR5,hs5⟩;rw[hE2];have HD5:=Lh (HD4.out.right hs5);have HR5:=Lh hR5;clear hs5 HD4 e0 e1 hR5;go_wp2;refine⟨⟨j+1,_,lv5,R5,by omega,by go_num,HD5.out, ?_, ?_⟩,by simp[intOf];omega⟩
       ·rw[HR5.out];exact Cor.mapA HE.out _ _ _ _
       ·rw[HPs.out,if_pos hv8];exact Cor.mapA HK.out _ _ _ _
      ·have hv9:decide (v<8)=false:=decide_eq_false hv8;go_wp2;refine⟨⟨j+1,A,lv,R,by omega,by go_num,HDk.out,HE.out, ?_⟩,by simp[intOf];omega⟩;rw[HPs.out,if_neg hv8];exact HK.out
     ·obtain rfl:j=x.pn:=by omega
      have ha0:=HX.out.a0;have ha1:=HX.out.a1;have hw0:=HX.out.w0;have hw1:=HX.out.w1;have hm1:(x.at').tmod 4096=x.at' % 4096:=Int.tmod_eq_emod_of_nonneg ha0;have hm2:(x.wh).tmod 4096=x.wh % 4096:=Int.tmod_eq_emod_of_nonneg hw0;have hm3:x.at' % 4294967296=x.at':=by omega
      have hm4:x.wh % 4294967296=x.wh:=by omega
      go_wp2_with fail;go_region;go_wp2_with fail;have HT:Hid (∀V A5 lv5 R5,Duo W V cb sb mb A5 x.regs x.pc db rb lv5 R5 x.regs x.pc→V.cell? ⟨w.heap.size,6,none⟩=some (.string x.text)):=Lh fun V A5 lv5 R5 h5=>by
       obtain⟨_,_,_,hbx5⟩:=HRow.out V h5.bel;exact hbx5.cells.2.2.2.2.2.2
      refine(text _ x.ca x.cn x.ccap x.cf (HCr.out.below Br.drew) HX.out.cbd HX.out.clen).mono ?_;rintro e w5 ⟨rfl,hb5⟩;have hSsz:(strOfNums (textL x.cf x.cn)).size≤140737488355328:=by rw[szN,textL_len];have:=HX.out.clen;omega
      have hTsz:x.text.size≤140737488355328:=by have:=HX.out.tlen;omega
      have HPg:Hid (x.pgs=Sp.putA (Sp.putA (pgsK x.pf x.pn) (x.at' % 4096) 0 (strOfNums (textL x.cf x.cn))) (x.wh % 4096) 0 x.text):=Lh rfl;have hA0:0≤x.at' % 4096:=by omega
      have hA1:x.at' % 4096≤4294967295:=by omega
      have hA2:0≤x.wh % 4096:=by omega
      have hA3:x.wh % 4096≤4294967295:=by omega
      have hd5:=(HDk.out.below Br.drew).below hb5;have HD5:=Lh hd5;have hd6:=hd5.below Br.drew;have HD6:=Lh hd6;have t5:=HT.out _ _ _ _ hd5;have t6:=HT.out _ _ _ _ hd6;clear hd5 hd6 hb5 HDk b0 b1 b2 b3 b4 b5 b6 HCr hm1 hm2 hm3 hm4;generalize strOfNums (textL x.cf x.cn)=S at*;generalize x.at' % 4096=AT at*;generalize x.wh % 4096=WH at*;go_wp2_with fail;go_region_held3 (fun w'=>w'.cell? ⟨w.heap.size,6,none⟩=some (.string x.text))
       (first
        |exact t5
        |exact t6
        |exact t7
        |exact t8
        |exact t9
        |exact t10)
       (first
        |(
          go_at_call 87
          (with_reducible refine(Sp.s_set HD6.out.pair.sp AT S hA0 hA1 hSsz).mono ?_)
          rintro e w7 ⟨rfl,hs7⟩;have hd7:=HD6.out.left hs7;have t7:=HT.out _ _ _ _ hd7)
        |(
          go_at_call 98
          (with_reducible refine(Rs.put_in hd7.pair.rp AT 0 S hA0 hA1 hSsz (by omega) (by omega)).mono ?_)
          rintro e w8 ⟨R8,rfl,hR8,hs8⟩;rw[←Cor.fitsE HE.out];have he8:=Cor.putA HE.out AT 0 S;rw[←hR8] at he8;have hk8:=Cor.putA HK.out AT 0 S;have hd8:=hd7.right hs8;have t8:=HT.out _ _ _ _ hd8)
        |(
          go_at_call 87
          (with_reducible refine(Sp.s_set hd8.pair.sp WH x.text hA2 hA3 hTsz).mono ?_)
          rintro e w9 ⟨rfl,hs9⟩;have hd9:=hd8.left hs9;have t9:=HT.out _ _ _ _ hd9)
        |(
          go_at_call 98
          (with_reducible refine(Rs.put_in hd9.pair.rp WH 0 x.text hA2 hA3 hTsz (by omega) (by omega)).mono ?_)
          rintro e w10 ⟨R10,rfl,hR10,hs10⟩;rw[←Cor.fitsE he8];have he10:=Cor.putA he8 WH 0 x.text;rw[←hR10] at he10;have hk10:=Cor.putA hk8 WH 0 x.text;have hd10:=hd9.right hs10;have t10:=HT.out _ _ _ _ hd10))
      all_goals
       have HD10:=Lh (hd10.weaken HB.out);have HE10:=Lh he10;rw[←HPg.out] at hk10;have HK10:=Lh hk10;clear hd10 he10 hk10 hd9 hd8 hd7 t5 t6 t7 t8 t9 t10 he8 hk8 hR8 hR10 hs7 hs8 hs9 hs10;go_wp2;refine bodyPost_ret (v:=.tuple #[.pointer (some ⟨cb,0,none⟩),.pointer (some ⟨sb,0,none⟩),.pointer (some ⟨db,0,none⟩),.pointer (some ⟨rb,0,none⟩),.bool true]) (by simp[results,Tryz.results64]) rfl ?_;exact HFin.out cb sb mb _ db rb _ R10 _ HD10.out HE10.out HK10.out
end Cp
end Go.Proofs.YtehihecknhcggaaGreat
namespace Go.Proofs.YtehihecknhcggaaGreat.Rd
open Go.ChangeShapes Go.WideShapes Go.Deep
section
variable {H:Type} {enc:TypeId×Value→H} {P:Program} {w:World} {base:Nat} {spare:Nat→Bool} {held:Bool}
def Wt(P:Program)(t:TypeId)(d:DataW H):Prop:=∀n,n∈d.weights P t→n≤reachBytes
theorem wt_of{ts:List TypeId}{ds:List (DataW H)}(h:(DataW.weightsEach P ts ds).all (·≤reachBytes)=true){j:Nat}{t:TypeId}{d:DataW H}(ht:ts[j]? =some t)(hd:ds[j]? =some d):Wt P t d:=by
 intro n hn;have:=List.all_eq_true.1 h n (DataW.weights_mem_each ht hd n hn)
 simpa using this
theorem wt_str{t:TypeId}{l:List UInt8}(h:Wt P t (.lit (.string l):DataW H)):l.length<140737488355328:=
 Nat.lt_of_le_of_lt (h l.length (by simp[DataW.weights])) (by decide)
theorem wt_field{t:TypeId}{fs:Array Field}(ht:P.underlying t=some (.struct fs)){parts:List (DataW H)}(h:Wt P t (.agg parts)){j:Nat}{f:Field}{d:DataW H}(hf:fs[j]? =some f)(hd:parts[j]? =some d):Wt P f.type d:=by
 intro n hn;refine h n ?_;simp only[DataW.weights,ht];exact DataW.weights_mem_each (by simpa using (show(fs.toList.map (·.type))[j]? =some f.type by simp[hf])) hd n hn
theorem mem_weightsAll{e:TypeId}{d:DataW H}{n:Nat}:∀ {l:List (DataW H)},d∈l→n∈d.weights P e→n∈DataW.weightsAll P e l
 |x::r,hd,hn=>by
  simp only[DataW.weightsAll,List.mem_append];rcases List.mem_cons.1 hd with rfl|h
  ·exact .inl hn
  ·exact .inr (mem_weightsAll h hn)
theorem wt_elem{t e:TypeId}(ht:P.underlying t=some (.slice e)){elems sp:List (DataW H)}(h:Wt P t (.slice elems sp)){d:DataW H}(hd:d∈elems):Wt P e d:=by
 intro n hn;refine h n ?_;simp only[DataW.weights,ht,List.mem_cons,List.mem_append];exact .inr (.inl (mem_weightsAll hd hn))
theorem wt_len{t e:TypeId}(ht:P.underlying t=some (.slice e)){elems sp:List (DataW H)}(h:Wt P t (.slice elems sp)):elems.length*P.bytesOf e<140737488355328:=by
 have:=h ((elems.length+sp.length)*P.bytesOf e) (by simp[DataW.weights,ht]);have h2:elems.length*P.bytesOf e≤(elems.length+sp.length)*P.bytesOf e:=Nat.mul_le_mul_right _ (by omega);exact Nat.lt_of_le_of_lt (Nat.le_trans h2 this) (by decide)
variable {t:TypeId} {fuel:Nat} {v:Value} {y:DataW H×List MemPlace}
theorem rd_int{k:IntKind}(ht:P.underlying t=some (.int k))(h:DataW.trod enc P w base spare held fuel t [v]=some y):∃n,v=.int k n∧(Lit.int k n).wf=true:=by
 obtain⟨n,hc,_,hw⟩:=DataW.trod_int ht h;simp at hc;exact⟨n,hc,hw⟩
theorem rd_bool(ht:P.underlying t=some .bool)(h:DataW.trod enc P w base spare held fuel t [v]=some y):∃b,v=.bool b:=by
 obtain⟨n,hc,_⟩:=DataW.trod_bool ht h;simp at hc;exact⟨n,hc⟩
theorem rd_str(ht:P.underlying t=some .string)(h:DataW.trod enc P w base spare held fuel t [v]=some y)(hw:Wt P t y.1):∃s:ByteArray,v=.string s∧s.size<140737488355328:=by
 obtain⟨s,hc,rfl,_⟩:=DataW.trod_string ht h;simp at hc;have:=wt_str hw;rw[Array.length_toList] at this;exact⟨s,hc,this⟩
theorem rd_struct{fs:Array Field}(ht:P.underlying t=some (.struct fs))(hone:oneCellFields P fs=true)(hC:P.cellsOf t=fs.size){cs:List Value}(h:DataW.trod enc P w base spare held fuel t cs=some y)(hw:Wt P t y.1):
  cs.length=fs.size∧∀(j:Nat) (f:Field),fs[j]? =some f→∃(v:Value) (z:DataW H×List MemPlace) (n:Nat),cs[j]? =some v∧DataW.trod enc P w base spare held n f.type [v]=some z∧Wt P f.type z.1:=by
 obtain⟨xs,n,_,rfl,hlen,hxl,hf⟩:=DataW.trod_struct ht h;rw[hC] at hlen;refine⟨hlen,fun j f hj=> ?_⟩;obtain⟨ho,hk⟩:=hone_of hone j f hj;have hjl:j<fs.size:=(Array.getElem?_eq_some_iff.1 hj).1;have h1:=hf j f hj;rw[ho,hk] at h1;have hone':(cs.drop j).take 1=[cs[j]'(by omega)]:=by
  rw[List.drop_eq_getElem_cons (by omega)];rfl
 rw[hone'] at h1;have hys:xs[j]? =some (xs[j]'(by omega)):=Zg (by omega);exact⟨_,_,n,Zg (by omega),h1.trans hys,wt_field ht hw hj (by rw[List.getElem?_map,hys];rfl)⟩
theorem list_choose{X:Type}(n:Nat)(Q:Nat→X→Prop)(h:∀i,i<n→∃x,Q i x):∃xs:List X,xs.length=n∧∀i x,xs[i]? =some x→Q i x:=by
 induction n with
 |zero=>exact⟨[],rfl,fun i x hx=>by simp at hx⟩
 |succ n ih=>
  obtain⟨xs,hl,hx⟩:=ih fun i hi=>h i (by omega)
  obtain⟨x,hq⟩:=h n (by omega);refine⟨xs++[x],by simp[hl],fun i y hy=> ?_⟩
  by_cases hi:i<n
  ·exact hx i y (by rwa [List.getElem?_append_left (by omega)] at hy)
  ·rw[List.getElem?_append_right (by omega)] at hy;have:i - xs.length=0:=by
    rcases Nat.eq_zero_or_pos (i - xs.length) with g|g
    ·exact g
    ·rw[List.getElem?_eq_none (by simp;omega)] at hy;cases hy
   rw[this] at hy;simp at hy;obtain rfl:i=n:=by omega
   exact hy▸hq
def Sl{X:Type}(w:World)(C:Nat)(Q:(Nat→Option Value)→X→Prop)(a:Option Addr)(cap:Nat)(xs:List X):Prop:=
 xs.length≤cap∧cap≤maxLen∧(xs=[]∨∃b off,a=some ⟨b,off,none⟩∧∀i x,xs[i]? =some x→Q (fun j=>w.cell? ⟨b,off+i*C+j,none⟩) x)∧(a=none→cap=0)
theorem rd_slice{e:TypeId}(ht:P.underlying t=some (.slice e))(C:Nat)(hC:P.cellsOf e=C)(hC0:0<C){X:Type}(Q:(Nat→Option Value)→X→Prop)
  (hQ:∀(cs:List Value) (n:Nat) (z:DataW H×List MemPlace) (g:Nat→Option Value),DataW.trod enc P w base spare held n e cs=some z→Wt P e z.1→cs.length=C→(∀j,j<C→g j=cs[j]?)→∃x,Q g x)
  (h:DataW.trod enc P w base spare held fuel t [v]=some y) (hw:Wt P t y.1):
  ∃(a:Option Addr) (cap:Nat) (xs:List X),v=.slice a xs.length cap∧Sl w C Q a cap xs∧xs.length*P.bytesOf e<140737488355328:=by
 rcases open_slice ht h with⟨hc,_⟩|⟨a,len,cap,m,n,D,Pl,hcs,hb,hl,hm,hmm,rfl,hi⟩
 ·simp at hc;exact⟨none,0,[],hc,⟨Nat.le_refl _,Nat.zero_le _,.inl rfl,fun _=>rfl⟩,by simp⟩
 ·simp at hcs;have hml:len≤m:=by rw[hmm];split<;>omega
  obtain⟨b,off,spot⟩:=a;have hsp:0<len→spot=none:=by
   intro h0;obtain⟨cs',h1,h2⟩:=hi 0 (by omega);rw[hC] at h1;obtain⟨_,hcl,hat⟩:=World.cells?_some h1;have:=hat 0 hC0;have hz:cs'[0]? =some (cs'[0]'(by omega)):=Zg (by omega);rw[hz] at this;cases spot with
   |none=>rfl
   |some s=>simp[Addr.add,World.cell?] at this;split at this<;>simp at this
  obtain⟨xs,hxl,hx⟩:=list_choose len (fun i x=>Q (fun j=>w.cell? ⟨b,off+i*C+j,none⟩) x) (fun i hi'=>by
   obtain⟨cs',h1,h2⟩:=hi i (by omega);rw[hC] at h1;obtain⟨_,hcl,hat⟩:=World.cells?_some h1;refine hQ cs' n _ _ h2 (wt_elem ht hw (List.mem_map.2 ⟨i,List.mem_range.2 hi',rfl⟩)) hcl fun j hj=> ?_
   have hs:=hsp (by omega);subst hs;rw[←hat j hj]
   congr 1
   unfold Addr.add
   by_cases e1:i*C=0
   ·by_cases e2:j=0<;>simp[e1,e2]
   ·by_cases e2:j=0<;>simp[e1,e2,Nat.add_assoc])
  have hlen:len=xs.length:=hxl.symm;have hwl:=wt_len ht hw;rw[List.length_map,List.length_range] at hwl;rw[hlen] at hcs hwl hl;refine⟨_,cap,xs,hcs,⟨hl,hm, ?_,fun h=>by cases h⟩,hwl⟩;cases xs with
  |nil=>exact .inl rfl
  |cons x r=>
   have hs:=hsp (by rw[hlen];simp);subst hs;exact .inr ⟨b,off,rfl,hx⟩
end
end Go.Proofs.YtehihecknhcggaaGreat.Rd
namespace Go.Proofs.YtehihecknhcggaaGreat.Cp
open Go.RowKit
structure St.pre(w:World)(x:St):Prop where
 rrow:RowN .u32 w x.ra x.rn x.rf
 rbd:∀i,i<x.rn→0≤x.rf i∧x.rf i≤4294967295
 rlen:x.rn≤9223372036854775807
 p0:0≤x.pc
 p1:x.pc≤4294967295
 prow:RowN .u8 w x.pa x.pn x.pf
 pbd:∀i,i<x.pn→0≤x.pf i∧x.pf i≤255
 a0:0≤x.at'
 a1:x.at'≤65535
 crow:Code w x.ca x.cn x.cf
 cbd:∀i,i<x.cn→(x.cf i).ok
 w0:0≤x.wh
 w1:x.wh≤65535
theorem bounds_u8'{n:Int}(h:(Lit.int .u8 n).wf=true):0≤n∧n≤255:=by
 simp[Lit.wf,IntKind.min,IntKind.max,IntKind.signed,IntKind.bits] at h;omega
theorem bounds_u16'{n:Int}(h:(Lit.int .u16 n).wf=true):0≤n∧n≤65535:=by
 simp[Lit.wf,IntKind.min,IntKind.max,IntKind.signed,IntKind.bits] at h;omega
def numQ(k:IntKind)(g:Nat→Option Value)(x:Int):Prop:=g 0=some (.int k x)∧(Lit.int k x).wf=true
theorem num_read{H:Type}{enc:TypeId×Value→H}{w:World}{base:Nat}{spare:Nat→Bool}{held:Bool}{k:IntKind}{t:TypeId}(ht:Tryz.prog.underlying t=some (.int k))(cs:List Value)(n:Nat)(z:DataW H×List MemPlace)(g:Nat→Option Value)
  (h:DataW.trod enc Tryz.prog w base spare held n t cs=some z) (hw:Rd.Wt Tryz.prog t z.1) (hl:cs.length=1) (hg:∀j,j<1→g j=cs[j]?):∃x:Int,numQ k g x:=by
 match cs,hl with
 | [v],_=>
  obtain⟨x,rfl,wx⟩:=Rd.rd_int ht h;exact⟨x,hg 0 (by omega),wx⟩
end Go.Proofs.YtehihecknhcggaaGreat.Cp
namespace Go.Proofs.YtehihecknhcggaaGreat
open Go.RowKit Word
section
variable {P:Program} {ops:Array Oper} {Q:Exit→Act→World→Prop} {md:Region.Mode} {S T:World→Prop}
theorem H_one{l:List Oper}{i:Nat}{o:Oper}{fuel:Nat}{listed:Array Bool}{a:Act}{w:World}(hr:Region.ready md l.toArray listed=[i])(ho:l[i]? =some o)
  (h:∀K':Act→World→Prop,Shut (∀a w,S w→(S w→wpAnyH P md l.toArray Q S fuel (listed.setIfInBounds i true) a w)→K' a w)→if Region.wanted o (yielded l.toArray a.tmps)=true then Oper.wp P o a w K' Q else K' (a.put o.dst undef) w):
  wpAnyH P md l.toArray Q S (fuel+1) listed a w:=
 wpAnyH_ready hr (by simp) (AllReadyH.cons (by rw[List.getElem?_toArray];exact ho) h AllReadyH.nil)
end
structure KE(w:World)(a:KAt)(K:Kn)(e:EAt)(E:En):Prop where
 kn:Knl w a K
 en:Env w e E
 apart:∀x,e.foot E.A x→a.tag x=0
structure JStep(W w:World)(a0:KAt)(e0:EAt)(A0:List Pg)(a:KAt)(K:Kn)(e:EAt)(E:En):Prop where
 j:KE w a K e E
 same:(a.kb=a0.kb∧a.c.cb=a0.c.cb∧a.nb=a0.nb)∧e.eb=e0.eb∧e.sb=e0.sb∧e.mb=e0.mb∧e.cb=e0.cb
 mod:Mod (fun x=>a0.wf x∨e0.foot A0 x) W w
 tag:∀k,k<W.heap.size→a.tag k=a0.tag k
 foot:∀k,e.foot E.A k→e0.foot A0 k∨W.heap.size≤k
theorem KEn.ke{w0 w:World}{a:KAt}{K:Kn}{e:EAt}{E:En}(h:KEn w0 w a K e E):KE w a K e E:=⟨h.kn,h.en,h.apart⟩
theorem KEn.step{w0 w w':World}{a a':KAt}{K K':Kn}{e e':EAt}{E E':En}(h:KEn w0 w a K e E)(s:JStep w w' a e E.A a' K' e' E')(hn:E'.num=E.num):KEn w0 w' a' K' e' E' where
 kn:=s.j.kn
 en:=s.j.en
 apart:=s.j.apart
 bel:=Mod.below h.bel s.mod h.bel.size fun i _ g=>g.elim (fun q=>h.k0 i q.1) (h.e0 i)
 k0:=fun x hx=>by
  rcases Nat.lt_or_ge x w.heap.size with q|q
  ·exact h.k0 x (by rw[←s.tag x q];exact hx)
  ·exact Nat.le_trans h.bel.size q
 e0:=fun x hx=>(s.foot x hx).elim (h.e0 x) fun g=>Nat.le_trans h.bel.size g
 num:=by rw[hn];exact h.num
theorem putA_addrs(A:List Pg)(x need:Int)(s:ByteArray):(Sp.putA A x need s).map Pg.addr=A.map Pg.addr:=by
 have h1:∀(A:List Pg) (x v:Int),(setByte A x v).map Pg.addr=A.map Pg.addr:=fun A x v=>by
  unfold setByte;rw[List.map_map];exact List.map_congr_left fun p _=>setPg_addr x v p
 have h2:∀(A:List Pg) (addr:Int) (xs:List Int) (k:Nat),(putN A addr xs k).map Pg.addr=A.map Pg.addr:=fun A addr xs k=>by
  induction k with
  |zero=>rfl
  |succ k ih=>exact(h1 _ _ _).trans ih
 unfold Sp.putA
 split
 ·exact h2 _ _ _ _
 ·rfl
theorem putA_own{E:En}(h:E.Ok)(x need:Int)(s:ByteArray):∀y,y∈E.own→(atAddr (Sp.putA E.A x need s) y).isSome=true:=fun y hy=>by
 have:=h.has y hy;rw[isSome_addr] at this⊢;rw[putA_addrs];exact this
open Go.RowKit
namespace Kl
section
variable {w:World} {a:KAt} {K:Kn}
theorem caps(h:Knl w a K):Calls Tryz.prog 23 #[.pointer (some ⟨a.kb,0,none⟩)] w fun e w'=>e=.returned (.pointer (some ⟨a.c.cb,0,none⟩))∧w=w':=by
 obtain⟨_,_,c2,_,_,_⟩:=h.cells;clear h;go_enter func23,ntmps23;go_wp2;go_ret;exact⟨rfl,rfl⟩
end
end Kl
open Go.RowKit Word
open Go.RowKit Word
structure EPair(w0 w:World)(a:EAt)(E:En)(b:RAt)(R:List Rp)(F:En):Prop where
 env:Env w a E
 ren:Renv w b R F
 apart:∀k,a.foot E.A k→¬b.foot R k
 bel:Below w0.heap.size w0 w
 a0:∀k,a.foot E.A k→w0.heap.size≤k
 b0:∀k,b.foot R k→w0.heap.size≤k
namespace EPair
variable {w0 w w':World} {a a':EAt} {E E':En} {b b':RAt} {R R':List Rp} {F F':En}
theorem below(h:EPair w0 w a E b R F)(hb:Below w.heap.size w w'):EPair w0 w' a E b R F:= {h with env:=h.env.below hb,ren:=h.ren.below hb,bel:=h.bel.trans (hb.mono h.bel.size)}
end EPair
namespace Cp
theorem regsK_regs(r:List Int)(hl:r.length=16)(h0:rg r 0=0):regsK (fun i=>rg r i) 16=r:=by
 apply List.ext_getElem?
 intro n;unfold regsK
 by_cases hn:n<16
 ·simp only[List.getElem?_map,List.getElem?_range hn,Option.map_some];have hr:r[n]? =some (rg r n):=by
   unfold rg;rw[Int.toNat_natCast,List.getD,Zg (by omega)];rfl
  rw[hr]
  by_cases g:0<n
  ·rw[if_pos ⟨g,hn⟩]
  ·obtain rfl:n=0:=by omega
   rw[if_neg (by omega)];exact congrArg some h0.symm
 ·rw[List.getElem?_eq_none (by simp;omega),List.getElem?_eq_none (by omega)]
def St.env(num:Int)(x:St):En:=⟨num,2,0,0,ByteArray.empty,[],x.pgs,x.regs,x.pc⟩
end Cp
open Go.RowKit Word
theorem kindOf(k c y:Int)(V:World):(Instr.field 195 (.agg #[.int .u8 k,.int .u32 c,.int .i64 y]) 0).run Tryz.prog V=.ok (.int .u8 k) V:=by kernel_rfl
open Go.RowKit Word
end Go.Proofs.YtehihecknhcggaaGreat
namespace Go.Proofs.YtehihecknhcggaaGreat.Rd
open Go.ChangeShapes Go.WideShapes Go.Deep
section
variable {H:Type} {enc:TypeId×Value→H} {P:Program} {w:World} {base:Nat} {spare:Nat→Bool} {held:Bool}
variable {t:TypeId} {fuel:Nat} {v:Value} {y:DataW H×List MemPlace}
theorem rd_part{fs:Array Field}(ht:P.underlying t=some (.struct fs)){cs:List Value}(h:DataW.trod enc P w base spare held fuel t cs=some y)(hw:Wt P t y.1)(j:Nat)(f:Field)(hj:fs[j]? =some f):
  ∃(z:DataW H×List MemPlace) (n:Nat),DataW.trod enc P w base spare held n f.type ((cs.drop f.offset).take (P.cellsOf f.type))=some z∧Wt P f.type z.1:=by
 obtain⟨xs,n,_,rfl,hlen,hxl,hf⟩:=DataW.trod_struct ht h;have hjl:j<fs.size:=(Array.getElem?_eq_some_iff.1 hj).1;have hys:xs[j]? =some (xs[j]'(by omega)):=Zg (by omega);exact⟨_,n,(hf j f hj).trans hys,wt_field ht hw hj (by rw[List.getElem?_map,hys];rfl)⟩
theorem rd_four{e:TypeId}{k:IntKind}(ht:P.underlying t=some (.array 4 e))(he:P.underlying e=some (.int k))(hC:P.cellsOf e=1)(hC4:P.cellsOf t=4){cs:List Value}(h:DataW.trod enc P w base spare held fuel t cs=some y):
  ∃c:Nat→Int,cs=[.int k (c 0),.int k (c 1),.int k (c 2),.int k (c 3)]∧∀i,i<4→(Lit.int k (c i)).wf=true:=by
 obtain⟨xs,m,_,_,hlen,hxl,hf⟩:=DataW.trod_array ht h;rw[hC4] at hlen;have hone:∀i,i<4→∃x,cs[i]? =some (.int k x)∧(Lit.int k x).wf=true:=fun i hi=>by
  have h1:=hf i hi;rw[hC,Nat.mul_one] at h1;have h2:(cs.drop i).take 1=[cs[i]'(by omega)]:=by
   rw[List.drop_eq_getElem_cons (by omega)];rfl
  rw[h2,Zg (by omega)] at h1;obtain⟨x,hx,hw⟩:=rd_int he h1;exact⟨x,by rw[Zg (by omega),hx],hw⟩
 obtain⟨x0,e0,w0⟩:=hone 0 (by omega);obtain⟨x1,e1,w1⟩:=hone 1 (by omega);obtain⟨x2,e2,w2⟩:=hone 2 (by omega);obtain⟨x3,e3,w3⟩:=hone 3 (by omega);refine⟨fun i=>if i=0 then x0 else if i=1 then x1 else if i=2 then x2 else x3,List.ext_getElem? fun j=> ?_,fun i hi=> ?_⟩
 ·match j with
  |0=>exact e0
  |1=>exact e1
  |2=>exact e2
  |3=>exact e3
  |j+4=>rw[List.getElem?_eq_none (by omega),List.getElem?_eq_none (by simp)]
 ·match i,hi with
  |0,_=>exact w0
  |1,_=>exact w1
  |2,_=>exact w2
  |3,_=>exact w3
end
end Go.Proofs.YtehihecknhcggaaGreat.Rd
namespace Go.Proofs.YtehihecknhcggaaGreat.In
open Go.RowKit
structure MnI where
 m:Mn
 ea:Option Addr
 ecap:Nat
 pa:Option Addr
 pcap:Nat
def MnI.ev(x:MnI):Value:=.slice x.ea x.m.ext.length x.ecap
def MnI.pv(x:MnI):Value:=.slice x.pa x.m.ports.length x.pcap
structure MnI.pre(w:World)(x:MnI):Prop where
 i:MnIn w x.ev x.pv x.m
 ok:x.m.ok
theorem MnI.pre.below{w w':World}{x:MnI}(h:x.pre w)(hb:Below w.heap.size w w'):x.pre w':=⟨h.i.below hb,h.ok⟩
def extQ(g:Nat→Option Value)(x:Int×Int):Prop:=(g 0=some (.int .u32 x.1)∧g 1=some (.int .u32 x.2))∧(0≤x.1∧x.1≤4294967295)∧0≤x.2∧x.2≤4294967295
theorem ext_read{H:Type}{enc:TypeId×Value→H}{w:World}{base:Nat}{spare:Nat→Bool}{held:Bool}(cs:List Value)(n:Nat)(z:DataW H×List MemPlace)(g:Nat→Option Value)
  (h:DataW.trod enc Tryz.prog w base spare held n 317 cs=some z) (hw:Rd.Wt Tryz.prog 317 z.1) (hl:cs.length=2) (hg:∀j,j<2→g j=cs[j]?):∃x:Int×Int,extQ g x:=by
 obtain⟨_,hs⟩:=Rd.rd_struct Tryz.underlying317 (by kernel_rfl) (by kernel_rfl) h hw;obtain⟨v0,z0,n0,e0,t0,q0⟩:=hs 0 _ rfl;obtain⟨x0,rfl,w0⟩:=Rd.rd_int Tryz.underlying41 t0;obtain⟨v1,z1,n1,e1,t1,q1⟩:=hs 1 _ rfl;obtain⟨x1,rfl,w1⟩:=Rd.rd_int Tryz.underlying41 t1;exact⟨(x0,x1),⟨(hg 0 (by omega)).trans e0,(hg 1 (by omega)).trans e1⟩,bounds_u32 w0,bounds_u32 w1⟩
theorem sl_rw{w:World}{a:Option Addr}{cap s:Nat}{X:Type}{Q:(Nat→Option Value)→X→Prop}{xs:List X}{C:X→List Value}(hC:∀x,(C x).length=s)(hs:0<s)(hQ:∀g x,Q g x→∀j u,(C x)[j]? =some u→g j=some u)(h:Rd.Sl w s Q a cap xs):RwV w s (.slice a xs.length cap) xs.length (xs.flatMap C):=by
 obtain⟨h1,h2,h3,_⟩:=h;have hlen:∀l:List X,(l.flatMap C).length=l.length*s:=fun l=>by
  induction l with
  |nil=>simp
  |cons x l ih=>rw[List.flatMap_cons,List.length_append,ih,hC,List.length_cons,Nat.add_mul];omega
 have hat:∀(l:List X) (j:Nat),(l.flatMap C)[j]? =(l[j / s]?).bind fun x=>(C x)[j % s]? :=fun l=>by
  induction l with
  |nil=>intro j;simp
  |cons x l ih=>
   intro j;rw[List.flatMap_cons]
   by_cases q:j<s
   ·rw[List.getElem?_append_left (by rw[hC];exact q),Nat.div_eq_of_lt q,Nat.mod_eq_of_lt q];rfl
   ·rw[List.getElem?_append_right (by rw[hC];omega),hC,ih (j - s)];have e1:j / s=(j - s) / s+1:=by
     have:=Nat.add_div_right (j - s) hs;rw[show j - s+s=j by omega] at this;exact this
    have e2:j % s=(j - s) % s:=by
     have:=Nat.add_mod_right (j - s) s;rw[show j - s+s=j by omega] at this;exact this
    rw[e1,e2,List.getElem?_cons_succ]
 refine⟨hlen xs,⟨a,cap,rfl,fun j u hu=> ?_⟩,Nat.le_trans h1 h2⟩;rcases h3 with rfl|⟨b,off,rfl,h⟩
 ·simp at hu
 ·rw[hat] at hu;cases hx:xs[j / s]? with
  |none=>rw[hx] at hu;cases hu
  |some x=>
   rw[hx] at hu;have:=hQ _ _ (h _ _ hx) _ _ hu;refine⟨b,off,rfl, ?_⟩;rw[←this];have e:off+j / s*s+j % s=off+j:=by
    have:=Nat.div_add_mod j s;rw[Nat.mul_comm] at this;generalize j / s*s=p at*;omega
   first|rw[e]|(rw[show off+j / s*s+j % s=off+j from e])
theorem man_readB{H:Type}{enc:TypeId×Value→H}{w:World}{base:Nat}{spare:Nat→Bool}{held:Bool}(cs:List Value)(n:Nat)(z:DataW H×List MemPlace)
  (h:DataW.trod enc Tryz.prog w base spare held n 48 cs=some z) (hw:Rd.Wt Tryz.prog 48 z.1) (hl:cs.length=4):∃x:MnI,cs=(x.m.cells x.ev x.pv).toList∧x.pre w∧x.m.ext.length<140737488355328∧x.m.ports.length<140737488355328:=by
 obtain⟨_,hs⟩:=Rd.rd_struct Tryz.underlying48 (by kernel_rfl) (by kernel_rfl) h hw;obtain⟨v0,z0,n0,e0,t0,q0⟩:=hs 0 _ rfl;obtain⟨x0,rfl,w0⟩:=Rd.rd_int Tryz.underlying41 t0;obtain⟨v1,z1,n1,e1,t1,q1⟩:=hs 1 _ rfl;obtain⟨a1,cap1,x1,rfl,s1,l1⟩:=Rd.rd_slice Tryz.underlying45 2 (by kernel_rfl) (by omega) extQ (fun cs n z g=>ext_read cs n z g) t1 q1;obtain⟨v2,z2,n2,e2,t2,q2⟩:=hs 2 _ rfl;obtain⟨a2,cap2,x2,rfl,s2,l2⟩:=Rd.rd_slice Tryz.underlying46 1 (by kernel_rfl) (by omega) (Cp.numQ .u16) (fun cs n z g=>Cp.num_read Tryz.underlying22 cs n z g) t2 q2;obtain⟨v3,z3,n3,e3,t3,q3⟩:=hs 3 _ rfl;obtain⟨x3,rfl⟩:=Rd.rd_bool Tryz.underlying4 t3;have b0:=bounds_u32 w0;have r1:=sl_rw (s:=2) (C:=fun x:Int×Int=>[.int .u32 x.1,.int .u32 x.2]) (fun x=>rfl) (by omega) (fun g x hq j u hu=>by
  obtain⟨⟨q0,q1⟩,_⟩:=hq
  match j with
  |0=>simp at hu;subst hu;exact q0
  |1=>simp at hu;subst hu;exact q1
  |j+2=>simp at hu) s1
 have r2:=sl_rw (s:=1) (C:=fun x:Int=>[Value.int .u16 x]) (fun x=>rfl) (by omega) (fun g x hq j u hu=>by
  obtain⟨q0,_⟩:=hq
  match j with
  |0=>simp at hu;subst hu;exact q0
  |j+1=>simp at hu) s2
 have hmem:∀ {X:Type} {C:Nat} {Q:(Nat→Option Value)→X→Prop} {a:Option Addr} {cap:Nat} {xs:List X},Rd.Sl w C Q a cap xs→∀x,x∈xs→∃g,Q g x:=fun hsl x hx=>by
  obtain⟨i,hi⟩:=List.getElem?_of_mem hx;rcases hsl.2.2.1 with rfl|⟨b,off,_,hq⟩
  ·cases hx
  ·exact⟨_,hq i x hi⟩
 have z1:x1.length<140737488355328:=by
  rw[show Tryz.prog.bytesOf 317=8 from by kernel_rfl] at l1;omega
 have z2:x2.length<140737488355328:=by
  rw[show Tryz.prog.bytesOf 22=2 from by kernel_rfl] at l2;omega
 refine⟨⟨⟨x0,x1,x2,x3⟩,a1,cap1,a2,cap2⟩, ?_,⟨⟨?_, ?_⟩,⟨b0.1,b0.2,fun x hx=> ?_,fun x hx=> ?_⟩⟩,z1,z2⟩
 ·refine List.ext_getElem? fun j=> ?_
  match j with
  |0=>exact e0
  |1=>exact e1
  |2=>exact e2
  |3=>exact e3
  |j+4=>rw[List.getElem?_eq_none (by omega),List.getElem?_eq_none (by simp[Mn.cells])]
 ·exact r1
 ·have e:∀l:List Int,l.flatMap (fun x:Int=>[Value.int .u16 x])=l.map (Value.int .u16):=fun l=>by
   induction l with
   |nil=>rfl
   |cons x l ih=>rw[List.flatMap_cons,ih];rfl
  rw[←e x2];exact r2
 ·obtain⟨g,_,q1,q2⟩:=hmem s1 x hx;exact⟨q1.1,q1.2,q2.1,q2.2⟩
 ·obtain⟨g,_,q1⟩:=hmem s2 x hx;have:=Cp.bounds_u16' q1;omega
structure HdI where
 p:Int
 a:Option Addr
 cap:Nat
 l:List Int
def HdI.v(h:HdI):Value:=.slice h.a h.l.length h.cap
structure HdI.pre(w:World)(h:HdI):Prop where
 p0:0≤h.p
 p1:h.p≤4294967295
 w:Rs.Words w h.a h.l
 bd:∀x,x∈h.l→0≤x∧x≤4294967295
theorem hard_read{H:Type}{enc:TypeId×Value→H}{w:World}{base:Nat}{spare:Nat→Bool}{held:Bool}(cs:List Value)(n:Nat)(z:DataW H×List MemPlace)
  (h:DataW.trod enc Tryz.prog w base spare held n 44 cs=some z) (hw:Rd.Wt Tryz.prog 44 z.1) (hl:cs.length=2):∃x:HdI,cs=[.int .u32 x.p,x.v]∧x.pre w:=by
 obtain⟨_,hs⟩:=Rd.rd_struct Tryz.underlying44 (by kernel_rfl) (by kernel_rfl) h hw;obtain⟨v0,z0,n0,e0,t0,q0⟩:=hs 0 _ rfl;obtain⟨x0,rfl,w0⟩:=Rd.rd_int Tryz.underlying41 t0;obtain⟨v1,z1,n1,e1,t1,q1⟩:=hs 1 _ rfl;obtain⟨a1,cap1,x1,rfl,s1,l1⟩:=Rd.rd_slice Tryz.underlying42 1 (by kernel_rfl) (by omega) (Cp.numQ .u32) (fun cs n z g=>Cp.num_read Tryz.underlying41 cs n z g) t1 q1;have b0:=bounds_u32 w0;refine⟨⟨x0,a1,cap1,x1⟩, ?_,⟨b0.1,b0.2,⟨fun i hi=> ?_, ?_⟩,fun x hx=> ?_⟩⟩
 ·refine List.ext_getElem? fun j=> ?_
  match j with
  |0=>exact e0
  |1=>exact e1
  |j+2=>rw[List.getElem?_eq_none (by omega),List.getElem?_eq_none (by simp)]
 ·rcases s1.2.2.1 with rfl|⟨b,off,rfl,hq⟩
  ·exact absurd hi (by simp)
  ·have:=(hq i _ (Zg hi)).1;refine⟨b,off,rfl, ?_⟩
   simpa using this
 ·have h1:=s1.1;have h2:=s1.2.1;unfold maxLen at h2
  first|(show x1.length≤_;omega)|omega
 ·obtain⟨i,hi⟩:=List.getElem?_of_mem hx;rcases s1.2.2.1 with rfl|⟨b,off,_,hq⟩
  ·cases hx
  ·exact bounds_u32 (hq i x hi).2
end Go.Proofs.YtehihecknhcggaaGreat.In
namespace Go.Proofs.YtehihecknhcggaaGreat.Fz
open Go.RowKit Go.Shelf
def wRen:Go.Shelf.Ren:=⟨fun|166=>171|240=>248|276=>309|n=>n,fun|0=>0|3=>3|4=>4|5=>5|9=>9|20=>20|37=>85|70=>298|72=>300|75=>302|80=>201|164=>447|n=>n,fun|n=>n⟩
theorem wLays:Go.Proofs.Lays.n166 Tryz.prog wRen:= {
 mixed:=by kernel_rfl
 f166:=func171.trans (congrArg some (by kernel_rfl))
 f240:=func248.trans (congrArg some (by kernel_rfl))
 f276:=func309.trans (congrArg some (by kernel_rfl))
 t0:=Tryz.underlying0
 a0:=Tryz.isAgg0
 z0:=Tryz.sizeOf0
 v0:=Tryz.zeroValue0
 t3:=Tryz.underlying3
 a3:=Tryz.isAgg3
 z3:=Tryz.sizeOf3
 v3:=Tryz.zeroValue3
 t4:=Tryz.underlying4
 a4:=Tryz.isAgg4
 z4:=Tryz.sizeOf4
 v4:=Tryz.zeroValue4
 t9:=Tryz.underlying9
 a9:=Tryz.isAgg9
 z9:=Tryz.sizeOf9
 v9:=Tryz.zeroValue9
 t20:=Tryz.underlying20
 a20:=Tryz.isAgg20
 z20:=Tryz.sizeOf20
 v20:=Tryz.zeroValue20
 t37:=Tryz.underlying85
 a37:=Tryz.isAgg85
 z37:=Tryz.sizeOf85
 v37:=Tryz.zeroValue85
 t70:=Tryz.underlying298
 a70:=Tryz.isAgg298
 z70:=Tryz.sizeOf298
 v70:=Tryz.zeroValue298
 t72:=Tryz.underlying300
 a72:=Tryz.isAgg300
 z72:=Tryz.sizeOf300
 v72:=Tryz.zeroValue300
 t75:=Tryz.underlying302
 a75:=Tryz.isAgg302
 z75:=Tryz.sizeOf302
 v75:=Tryz.zeroValue302
 t164:=Tryz.underlying447
 a164:=Tryz.isAgg447
 z164:=Tryz.sizeOf447
 v164:=Tryz.zeroValue447}
theorem wExtra:Builder.Extra Tryz.prog wRen:= {
 sizeBuilder:=by kernel_rfl
 liesBuilder:=by kernel_rfl
 t5:=Tryz.underlying5
 a5:=Tryz.isAgg5
 z5:=Tryz.sizeOf5
 v5:=Tryz.zeroValue5
 infoByte:=by kernel_rfl
 cellsByte:=by kernel_rfl
 sizeByte:=by kernel_rfl
 neB5:=by decide}
def sRen:Go.Shelf.Ren:=⟨fun|169=>176|n=>n,fun|70=>298|9=>9|0=>0|72=>300|37=>85|127=>398|3=>3|5=>5|n=>n,fun|n=>n⟩
theorem sLays:Go.Proofs.Lays.n169 Tryz.prog sRen:= {
 mixed:=by kernel_rfl
 f169:=func176.trans (congrArg some (by kernel_rfl))
 t0:=Tryz.underlying0
 a0:=Tryz.isAgg0
 z0:=Tryz.sizeOf0
 v0:=Tryz.zeroValue0
 t3:=Tryz.underlying3
 a3:=Tryz.isAgg3
 z3:=Tryz.sizeOf3
 v3:=Tryz.zeroValue3
 t9:=Tryz.underlying9
 a9:=Tryz.isAgg9
 z9:=Tryz.sizeOf9
 v9:=Tryz.zeroValue9
 t37:=Tryz.underlying85
 a37:=Tryz.isAgg85
 z37:=Tryz.sizeOf85
 v37:=Tryz.zeroValue85
 t70:=Tryz.underlying298
 a70:=Tryz.isAgg298
 z70:=Tryz.sizeOf298
 v70:=Tryz.zeroValue298
 t72:=Tryz.underlying300
 a72:=Tryz.isAgg300
 z72:=Tryz.sizeOf300
 v72:=Tryz.zeroValue300
 t127:=Tryz.underlying398
 a127:=Tryz.isAgg398
 z127:=Tryz.sizeOf398
 v127:=Tryz.zeroValue398}
theorem sExtra:Builder.Extra Tryz.prog sRen:= {
 sizeBuilder:=by kernel_rfl
 liesBuilder:=by kernel_rfl
 t5:=Tryz.underlying5
 a5:=Tryz.isAgg5
 z5:=Tryz.sizeOf5
 v5:=Tryz.zeroValue5
 infoByte:=by kernel_rfl
 cellsByte:=by kernel_rfl
 sizeByte:=by kernel_rfl
 neB5:=by decide}
def Bld(w:World)(B b:Nat)(s:ByteArray):Prop:=Lib.IsBuilderF 300 5 B b (Lib.byteCells s.data.toList) w
theorem Bld.keep{w w':World}{B b:Nat}{t:ByteArray}(h:Bld w B b t)(hb:Below w.heap.size w w'):Bld w' B b t:=by
 have k:∀p,Lib.BuilderAtF 300 5 B b p (Lib.byteCells t.data.toList) w→Lib.BuilderAtF 300 5 B b p (Lib.byteCells t.data.toList) w':=fun p ⟨hB,v,hv,ho,hn⟩=>
  ⟨hB,v,(hb.block _ (lQ hv)).trans hv,World.ownsRowF.kept (row:=none) ho ⟨hb.os,hb.tape,hb.output,hb.size,fun k hk _=>hb.block k hk⟩ (by
   cases hv:v.ownBlock with
   |none=>exact .inl rfl
   |some g=>exact .inr (by simp)),hn⟩
 exact h.imp (k _) (k _)
theorem Bld.new{w:World}{B b:Nat}(h:w.heap[b]? =some (.cells #[.pointer none,.slice none 0 0] 300 (0,0)))(hB:B≤b):Bld w B b ByteArray.empty:=
 .inl ⟨hB,_,h,World.ownsRowF_nil _ _ _ _,by simp[Value.ownBlock]⟩
theorem writeB{w:World}{B b:Nat}{t:ByteArray}(h:Bld w B b t)(u:ByteArray)(hl:t.size+u.size≤140737488355328)(hB:B≤w.heap.size):
  Calls Tryz.prog 171 #[.pointer (some ⟨b,0,none⟩),.string u] w fun e w'=>e=.returned (.tuple #[.int .i64 u.size,.nilIface])∧Bld w' B b (t++u)∧Below B w w'∧Lib.OthersKept 5 (some b) w w':=by
 refine(Any.Builder_WriteString_k wLays wExtra B b (Lib.byteCells t.data.toList) u w h (by rw[Lib.byteCells_length];exact hl) hB).mono fun e w' ⟨he,h1,h2,h3⟩=>⟨he,.inr ?_,h2,h3⟩
 have:Lib.byteCells (t++u).data.toList=Lib.byteCells t.data.toList++Lib.strCells u:=by
  unfold Lib.byteCells Lib.strCells;rw[ByteArray.data_append,Array.toList_append,List.map_append]
 rw[this];exact h1
theorem stringB{w:World}{B b:Nat}{t:ByteArray}(h:Bld w B b t)(hB:B≤w.heap.size):
  Calls Tryz.prog 176 #[.pointer (some ⟨b,0,none⟩)] w fun e w'=>e=.returned (.string t)∧Below B w w':=
 (Any.Builder_String_any_k sLays sExtra B b t.data.toList w h hB).mono fun e w' ⟨he,_,h2,_⟩=>⟨he,h2⟩
end Go.Proofs.YtehihecknhcggaaGreat.Fz
namespace Go.Proofs.YtehihecknhcggaaGreat.Fz
open Go.RowKit Word
def tl(s:ByteArray):List UInt8:=s.data.toList
theorem tl_app(a b:ByteArray):tl (a++b)=tl a++tl b:=by unfold tl;rw[ByteArray.data_append,Array.toList_append]
theorem tl_len(s:ByteArray):(tl s).length=s.size:=by unfold tl;rfl
theorem tl_inj{a b:ByteArray}(h:tl a=tl b):a=b:=by
 cases a;cases b;unfold tl at h;simp only at h
 congr 1
 exact Array.toList_inj.1 h
def pL(v:Int)(n:Nat):List UInt8:=tl (putS v n)
def fitN(v:Int)(n:Nat):Prop:=0≤v∧v<256 ^ n
theorem putS_nums(v:Int)(n:Nat)(h0:0≤v)(h1:v≤4294967295):nums (putS v n)=(putL v).take n:=by
 unfold putS;rw[nums_strOfNums];intro x hx;have:=List.mem_of_mem_take hx;simp[putL] at this;omega
theorem pL_len(v:Int)(n:Nat)(h:n≤4):(pL v n).length=n:=by
 unfold pL;rw[tl_len];unfold putS;rw[strOfNums_size,List.length_take]
 show min n 4=n
 omega
theorem get_putL(v:Int)(n:Nat)(h:n=1∨n=2∨n=4)(hf:fitN v n):getV ((putL v).take n)=v:=by
 obtain⟨h0,h1⟩:=hf;rcases h with rfl|rfl|rfl
 all_goals
  simp[putL,getV] at h1⊢;omega
theorem get_pL{s:ByteArray}{v:Int}{n:Nat}(h:n=1∨n=2∨n=4)(hf:fitN v n)(hs:tl s=pL v n):getV (nums s)=v:=by
 have e:s=putS v n:=tl_inj hs;have hb:v≤4294967295:=by
  obtain⟨h0,h1⟩:=hf;rcases h with rfl|rfl|rfl<;>simp at h1<;>omega
 rw[e,putS_nums v n hf.1 hb];exact get_putL v n h hf
theorem num_ok(v:Int)(n:Nat)(h:n=1∨n=2∨n=4)(hf:fitN v n)(w:World):
  Calls Tryz.prog 249 #[.int .u32 v,.int .i64 n] w fun e w'=>e=.returned (.tuple #[.string (putS v n),.int .i64 0])∧Below w.heap.size w w':=by
 obtain⟨h0,h1⟩:=hf;rcases h with rfl|rfl|rfl
 ·simp at h1;have e1:(v / 256 != 0)=false:=by simp;omega
  have H:=Lh (put1_ok v h0 (by omega) e1 w);have e2:(v / 2 ^ 8 != 0)=false:=e1;clear h1;go_enter func249,ntmps249;go_wp2_with fail;refine H.out.mono ?_;rintro e w1 ⟨rfl,hb⟩;have HB:=Lh hb;clear hb;go_wp2;go_ret2;exact⟨rfl,HB.out⟩
 ·simp at h1;have e1:(v / 65536 != 0)=false:=by simp;omega
  have H:=Lh (put2_ok v h0 (by omega) e1 w);have e2:(v / 2 ^ 16 != 0)=false:=e1;clear h1;go_enter func249,ntmps249;go_wp2_with fail;refine H.out.mono ?_;rintro e w1 ⟨rfl,hb⟩;have HB:=Lh hb;clear hb;go_wp2;go_ret2;exact⟨rfl,HB.out⟩
 ·simp at h1;have H:=Lh (put4_ok v h0 (by omega) w);clear h1;go_enter func249,ntmps249;go_wp2_with fail;refine H.out.mono ?_;rintro e w1 ⟨rfl,hb⟩;have HB:=Lh hb;clear hb;go_wp2;go_ret2;exact⟨rfl,HB.out⟩
theorem bit(b:Bool)(w:World):Calls Tryz.prog 174 #[.bool b] w fun e w'=>e=.returned (.int .u32 (if b then 1 else 0))∧w=w':=by
 cases b
 all_goals
  go_enter func174,ntmps174;go_wp2;go_ret;exact⟨rfl,rfl⟩
def bytesL(n:Nat)(l:List Int):List UInt8:=l.flatMap fun v=>pL v n
theorem bytesL_len(n:Nat)(h:n≤4)(l:List Int):(bytesL n l).length=n*l.length:=by
 induction l with
 |nil=>rfl
 |cons x l ih=>
  unfold bytesL at ih⊢;rw[List.flatMap_cons,List.length_append,ih,pL_len _ _ h,List.length_cons,Nat.mul_succ];omega
theorem bytesL_take(n:Nat)(l:List Int)(i:Nat)(hi:i<l.length):bytesL n (l.take (i+1))=bytesL n (l.take i)++pL l[i] n:=by
 unfold bytesL;rw[List.take_succ_eq_append_getElem hi,List.flatMap_append,List.flatMap_singleton]
theorem cellK{w w':World}(hb:Below w.heap.size w w'){b i:Nat}{v:Value}(h:w.cell? ⟨b,i,none⟩=some v):w'.cell? ⟨b,i,none⟩=some v:=by
 have hl:b<w.heap.size:=by
  unfold World.cell? at h;cases hg:w.heap[b]? with
  |none=>rw[hg] at h;cases h
  |some o=>exact lQ hg
 exact(World.cell?_of_block (w:=w) (hb.block b hl)).trans h
def byRel(w0:World)(b:Nat)(n:Nat)(l:List Int)(vi:Value)(wr:World):Prop:=∃(i:Nat) (s:ByteArray),i≤l.length∧vi=.int .i64 i∧Bld wr b b s∧tl s=bytesL n (l.take i)∧Below b w0 wr
theorem bytes{w:World}(n:Nat)(h:n=1∨n=2∨n=4)(l:List Int)(hl:l.length≤1000000)(hf:∀x,x∈l→fitN x n){a:Option Addr}{c:Nat}
  (hc:∀i (hi:i<l.length),∃g off,a=some ⟨g,off,none⟩∧w.cell? ⟨g,off+i,none⟩=some (.int .u32 l[i])):
  Calls Tryz.prog 172 #[.int .i64 n,.slice a l.length c] w fun e w'=>∃s,e=.returned (.string s)∧tl s=bytesL n l∧Below w.heap.size w w':=by
 have hb:Below w.heap.size w (w.alloc (.cells #[.pointer none,.slice none 0 0] 300)):=Ba _;have hx:=heap_alloc_new w (.cells #[.pointer none,.slice none 0 0] 300);have HR0:Hid (byRel w w.heap.size n l (.int .i64 0) (w.alloc (.cells #[.pointer none,.slice none 0 0] 300))):=Lh ⟨0,ByteArray.empty,Nat.zero_le _,rfl,Bld.new hx (Nat.le_refl _),rfl,hb⟩;have HC:=Lh hc;have HF:=Lh hf;have HL:=Lh hl;have HN:=Lh h;obtain⟨b,hbe⟩:∃b,w.heap.size=b:=⟨_,rfl⟩;rw[hbe] at HR0;have HBe:=Lh hbe;have HPost:Hid (∀s W,tl s=bytesL n l→Below b w W→∃s',Ending.returned (.string s)=.returned (.string s')∧tl s'=bytesL n l∧Below w.heap.size w W):=Lh fun s W h1 h2=>⟨s,rfl,h1,by rw[hbe];exact h2⟩
 have hn4:n≤4:=by omega
 have HN4:=Lh hn4;generalize hPQ:(fun(e:Ending) (w':World)=>∃s,e=.returned (.string s)∧tl s=bytesL n l∧Below w.heap.size w w')=PQ;have HEnd:Hid (∀s W,tl s=bytesL n l→Below b w W→PQ (.returned (.string s)) W):=Lh fun s W h1 h2=>by rw[←hPQ];exact HPost.out s W h1 h2
 clear hb hx hc hf hl h hPQ HPost hn4;go_enter func172,ntmps172;go_wp2;try rw[hbe]
 clear hbe;go_loopw [12] (fun vi wr=>byRel w b n l vi wr) (fun vi _=>l.length - (intOf vi).toNat)
 case atStart=>exact HR0.out
 case round=>
  clear HR0;obtain⟨i,s,hi,rfl,hs,ht,hbw⟩:=hrel
  by_cases hin:i<l.length
  ·have ii:(i:Int)<l.length:=by omega
   obtain⟨g,off,ea,hcc⟩:=HC.out i hin;have HBw:=Lh hbw;have hcw:wr.cell? ⟨g,off+i,none⟩=some (.int .u32 l[i]):=cellK (by rw[HBe.out];exact hbw) hcc;have HNm:=Lh (num_ok l[i] n HN.out (HF.out _ (List.getElem_mem hin)) wr);have iw:IntKind.i64.wrap ((i:Int)+1)=(i:Int)+1:=by have:=HL.out;rw[IntKind.wrap_i64];omega
   have HT:=Lh ht;have HS:=Lh hs;have hlt:(l.take i).length=i:=by rw[List.length_take];omega
   have HLt:=Lh hlt;subst ea;clear hcc hbw ht hs hlt;generalize hv:l[i]=v at*;have HV:=Lh hv;clear hv;go_wp2_with fail;refine HNm.out.mono ?_;rintro e w1 ⟨rfl,hb1⟩;have hsz:s.size+(putS v n).size≤140737488355328:=by
    have h1:=congrArg List.length HT.out;have h2:=pL_len v n HN4.out;unfold pL at h2;rw[tl_len] at h1 h2;rw[bytesL_len n HN4.out,HLt.out] at h1;have:=HL.out;have:=HN4.out;have:n*i≤4*1000000:=Nat.mul_le_mul this (by omega);omega
   have HB1:=Lh (HBw.out.trans (hb1.mono (by rw[←HBe.out];exact HBw.out.size)));have hwr:=writeB (HS.out.keep hb1) (putS v n) hsz (by have:=HB1.out.size;rw[HBe.out] at this;exact this);have HWr:=Lh hwr;clear hb1 hsz hwr HNm;go_wp2_with fail;refine HWr.out.mono ?_;rintro e w2 ⟨rfl,hs2,hb2,_⟩;have fin:byRel w b n l (.int .i64 ((i:Int)+1)) w2:=⟨i+1,_,hin,by simp,hs2,by rw[tl_app,bytesL_take n l i hin,HT.out,HV.out];rfl,HB1.out.trans hb2⟩;have Fin:=Lh fin;clear fin hs2 hb2 HWr HS;go_wp2;exact⟨Fin.out,by simp[intOf];omega⟩
  ·obtain rfl:i=l.length:=by omega
   rw[List.take_length] at ht;have ii:¬(l.length:Int)<l.length:=by omega
   have HT:=Lh ht;have HSt:=Lh (stringB hs (by have:=hbw.size;rw[HBe.out] at this;exact this));have HBw:=Lh hbw;clear ht hs hbw;go_wp2_with fail;refine HSt.out.mono ?_;rintro e w1 ⟨rfl,hb1⟩;have HX:=Lh (HEnd.out s w1 HT.out (HBw.out.trans hb1));clear hb1;go_wp2
   first|exact HX.out|(go_ret;exact HX.out)
end Go.Proofs.YtehihecknhcggaaGreat.Fz
namespace Go.Proofs.YtehihecknhcggaaGreat.Fz
open Go.RowKit Word
def RdrAt(w:World)(pb:Nat)(s:ByteArray)(j:Nat):Prop:=w.heap[pb]? =some (.cells #[.string s,.int .i64 j,.int .i64 0] 402 (0,0))
theorem RdrAt.cells{w:World}{pb:Nat}{s:ByteArray}{j:Nat}(h:RdrAt w pb s j):w.cell? ⟨pb,0,none⟩=some (.string s)∧w.cell? ⟨pb,1,none⟩=some (.int .i64 j)∧w.cell? ⟨pb,2,none⟩=some (.int .i64 0)∧True:=by
 unfold RdrAt at h;refine⟨?_, ?_, ?_,trivial⟩<;>(unfold World.cell?;rw[h];rfl)
theorem RdrAt.thaw{w:World}{pb:Nat}{s:ByteArray}{j:Nat}(h:RdrAt w pb s j)(i:Nat):w.frozen? ⟨pb,i,none⟩=false:=by
 unfold RdrAt at h;unfold World.frozen?;rw[h];simp
theorem RdrAt.keep{F:Nat→Prop}{w w':World}{pb:Nat}{s:ByteArray}{j:Nat}(h:RdrAt w pb s j)(hm:Mod F w w')(hf:¬F pb):RdrAt w' pb s j:=(hm.block _ (lQ h) hf).trans h
theorem fault{w:World}{pb:Nat}{s:ByteArray}{j:Nat}(h:RdrAt w pb s j):Calls Tryz.prog 250 #[.pointer (some ⟨pb,0,none⟩)] w fun e w'=>e=.returned (.int .i64 0)∧w=w':=by
 obtain⟨c0,c1,c2,_⟩:=h.cells;clear h;go_enter func250,ntmps250;go_wp2;go_ret;exact⟨rfl,rfl⟩
theorem left{w:World}{pb:Nat}{s:ByteArray}{j:Nat}(h:RdrAt w pb s j)(hs:s.size≤maxLen)(hj:j≤s.size):Calls Tryz.prog 311 #[.pointer (some ⟨pb,0,none⟩)] w fun e w'=>e=.returned (.int .i64 ((s.size:Int) - j))∧Below w.heap.size w w':=by
 have hc:=h.cells;have iw:IntKind.i64.wrap ((s.size:Int) - j)=(s.size:Int) - j:=by unfold maxLen at hs;rw[IntKind.wrap_i64];omega
 have h0:w.drew.cell? ⟨pb,0,none⟩=some (.string s)∧w.drew.cell? ⟨pb,1,none⟩=some (.int .i64 j)∧w.drew.cell? ⟨pb,2,none⟩=some (.int .i64 0)∧True:=hc;have H0:=Lh h0;clear h hc hs hj h0;go_enter func311,ntmps311;go_wp2_with fail;refine B (fun V=>V.cell? ⟨pb,0,none⟩=some (.string s)∧V.cell? ⟨pb,1,none⟩=some (.int .i64 j)∧V.cell? ⟨pb,2,none⟩=some (.int .i64 0)∧True) H0.out ?_;intro wd hwd hS;have HBd:Hid (Below w.heap.size w wd):=Lh (by subst hwd;exact Br.drew);clear hwd;refine T 0 hS ?_;refine T 1 hS ?_;refine T 2 hS ?_;refine T 3 hS ?_;refine T 5 hS ?_;refine T 6 hS ?_;refine T 7 hS ?_;refine T 8 hS ?_;refine U 4 fun K hK=> ?_
 go_simp;refine V hK hS ?_;clear hK K;refine T 9 hS ?_;refine T 10 hS ?_;refine wpAnyH_done (by kernel_rfl) ?_ _;clear hS;go_wp2
 first|exact⟨rfl,HBd.out⟩|(go_ret;exact⟨rfl,HBd.out⟩)
theorem take{w:World}{pb:Nat}{s:ByteArray}{j:Nat}(h:RdrAt w pb s j)(hs:s.size≤maxLen)(n:Nat)(hn:j+n≤s.size):
  Calls Tryz.prog 252 #[.pointer (some ⟨pb,0,none⟩),.int .i64 n] w fun e w'=>e=.returned (.tuple #[.string (s.extract j (j+n)),.int .i64 0])∧RdrAt w' pb s (j+n)∧Mod (fun k=>k=pb) w w':=by
 have HL:=Lh (left h hs (by omega));have HS:=Lh hs;have HH:=Lh h;have HN:=Lh hn;have hg:¬((s.size:Int) - j<n):=by omega
 have iw:IntKind.i64.wrap ((j:Int)+n)=(j:Int)+n:=by unfold maxLen at hs;rw[IntKind.wrap_i64];omega
 have iw2:IntKind.i64.wrap (j:Int)=(j:Int):=by unfold maxLen at hs;rw[IntKind.wrap_i64];omega
 clear h hs hn;go_enter func252,ntmps252;go_wp2_with fail;refine HL.out.mono ?_;rintro e w1 ⟨rfl,hb1⟩;have h1:RdrAt w1 pb s j:=(hb1.block _ (lQ HH.out)).trans HH.out;have HM:=Lh (Mod.of_below hb1 fun k=>k=pb);obtain⟨c0,c1,c2,_⟩:=h1.cells;have f1:=h1.thaw 1;have HR:=Lh h1;clear hb1 h1 HL;go_wp2_with fail;have h2:RdrAt (w1.setCell ⟨pb,1,none⟩ (.int .i64 ((j:Int)+n))) pb s (j+n):=by
  have:=heap_setCell_same w1 pb 1 _ _ (.int .i64 ((j:Int)+n)) HR.out;exact this
 have hm2:Mod (fun k=>k=pb) w (w1.setCell ⟨pb,1,none⟩ (.int .i64 ((j:Int)+n))):=HM.out.setCell _ (.inl rfl) _;generalize (w1.setCell ⟨pb,1,none⟩ (.int .i64 ((j:Int)+n)))=w2 at*;have hc2:=h2.cells;have H2:=Lh h2;have HM2:=Lh hm2;have hcd:w2.drew.cell? ⟨pb,0,none⟩=some (.string s)∧w2.drew.cell? ⟨pb,1,none⟩=some (.int .i64 ((j:Int)+n))∧w2.drew.cell? ⟨pb,2,none⟩=some (.int .i64 0)∧True:=by
  have:=hc2;simp only[Int.natCast_add] at this;exact this
 have HCd:=Lh hcd;have b1:(0:Int)≤(j:Int)+n:=by omega
 have b0:(0:Int)≤(j:Int):=by omega
 have b2:(j:Int)≤(j:Int)+n:=by omega
 have b3:(j:Int)+n≤s.size:=by have:=HN.out;omega
 have e2:((j:Int)+n).toNat=j+n:=by omega
 clear h2 hm2 hc2 hcd c0 c1 c2 f1;refine B (fun V=>V.cell? ⟨pb,0,none⟩=some (.string s)∧V.cell? ⟨pb,1,none⟩=some (.int .i64 ((j:Int)+n))∧V.cell? ⟨pb,2,none⟩=some (.int .i64 0)∧True) HCd.out ?_;intro wd hwd hS;have HX:Hid (RdrAt wd pb s (j+n)∧Mod (fun k=>k=pb) w wd):=Lh (by subst hwd;exact⟨H2.out,HM2.out.drew⟩);clear hwd;refine T 0 hS ?_;refine T 1 hS ?_;refine T 2 hS ?_;refine T 3 hS ?_;refine T 4 hS ?_;refine T 5 hS ?_;refine T 6 hS ?_;refine T 7 hS ?_;refine T 8 hS ?_;refine T 9 hS ?_;refine T 10 hS ?_;refine T 11 hS ?_;refine T 12 hS ?_;refine T 13 hS ?_;refine T 14 hS ?_;refine T 15 hS ?_;refine T 16 hS ?_;refine wpAnyH_done (by kernel_rfl) ?_ _;clear hS;go_wp2;go_ret2;exact⟨rfl,HX.out⟩
theorem takeR{w:World}{pb:Nat}{s:ByteArray}{j:Nat}(h:RdrAt w pb s j)(hs:s.size≤maxLen)(n:Nat)(hn:j+n≤s.size):
  Calls Tryz.prog 178 #[.pointer (some ⟨pb,0,none⟩),.int .i64 n] w fun e w'=>e=.returned (.tuple #[.string (s.extract j (j+n)),.int .i64 0])∧RdrAt w' pb s (j+n)∧Mod (fun k=>k=pb) w w':=by
 have HF:=Lh (fault h);have HT:=Lh (take h hs n hn);have hg:¬((n:Int)<0):=by omega
 clear h hs hn;go_enter func178,ntmps178;go_wp2_with fail;refine HF.out.mono ?_;rintro e w1 ⟨rfl,rfl⟩;go_wp2_with fail;refine HT.out.mono ?_;rintro e w1 ⟨rfl,hx⟩;have HX:=Lh hx;clear hx;go_wp2;go_ret2;exact⟨rfl,HX.out⟩
theorem numR{w:World}{pb:Nat}{s:ByteArray}{j:Nat}(h:RdrAt w pb s j)(hs:s.size≤maxLen)(n:Nat)(n1:1≤n)(n4:n≤4)(hn:j+n≤s.size):
  Calls Tryz.prog 253 #[.pointer (some ⟨pb,0,none⟩),.int .i64 n] w fun e w'=>e=.returned (.tuple #[.int .u32 (getV (nums (s.extract j (j+n)))),.int .i64 0])∧RdrAt w' pb s (j+n)∧Mod (fun k=>k=pb) w w':=by
 have HF:=Lh (fault h);have HT:=Lh (take h hs n hn);have hz:(s.extract j (j+n)).size=n:=by rw[ByteArray.size_extract];omega
 have HG:=Lh fun V=>get_ok (s.extract j (j+n)) (by omega) (by omega) V
 have hg:¬((n:Int)<1):=by omega
 have hg2:¬((4:Int)<n):=by omega
 clear h hs hn n1 n4 hz;generalize s.extract j (j+n)=u at*;go_enter func253,ntmps253;go_wp2_with fail;refine HF.out.mono ?_;rintro e w1 ⟨rfl,rfl⟩;go_wp2_with fail;refine HT.out.mono ?_;rintro e w1 ⟨rfl,hx⟩;have HX:=Lh hx;clear hx;go_wp2_with fail;refine(HG.out _).mono ?_;rintro e w2 ⟨rfl,rfl⟩;go_wp2;go_ret2;exact⟨rfl,HX.out⟩
structure FrR(w:World)(rb pb:Nat)(s:ByteArray)(j:Nat):Prop where
 r:RdrAt w pb s j
 h:w.heap[rb]? =some (.cells #[.pointer (some ⟨pb,0,none⟩),.bool false] 313 (0,0))
theorem FrR.ne{w:World}{rb pb:Nat}{s:ByteArray}{j:Nat}(h:FrR w rb pb s j):rb≠pb:=fun e=>by
 have h1:=h.r;have h2:=h.h;unfold RdrAt at h1;rw[e,h1] at h2;simp at h2
theorem FrR.keep{F:Nat→Prop}{w w':World}{rb pb:Nat}{s:ByteArray}{j:Nat}(h:FrR w rb pb s j)(hm:Mod F w w')(h1:¬F pb)(h2:¬F rb):FrR w' rb pb s j:=⟨h.r.keep hm h1,(hm.block _ (lQ h.h) h2).trans h.h⟩
theorem num{w:World}{rb pb:Nat}{s:ByteArray}{j:Nat}(h:FrR w rb pb s j)(hs:s.size≤maxLen)(n:Nat)(n1:1≤n)(n4:n≤4)(hn:j+n≤s.size):
  Calls Tryz.prog 179 #[.pointer (some ⟨rb,0,none⟩),.int .i64 n] w fun e w'=>e=.returned (.int .u32 (getV (nums (s.extract j (j+n)))))∧FrR w' rb pb s (j+n)∧Mod (fun k=>k=pb) w w':=by
 have HN:=Lh (numR h.r hs n n1 n4 hn);have HNe:=Lh h.ne;have HB:=Lh h.h;have c0:w.cell? ⟨rb,0,none⟩=some (.pointer (some ⟨pb,0,none⟩)):=by unfold World.cell?;rw[h.h];rfl
 clear h hs n1 n4 hn;go_enter func179,ntmps179;go_wp2_with fail;refine HN.out.mono ?_;rintro e w1 ⟨rfl,h1,hm⟩;have hb1:=(hm.block _ (lQ HB.out) HNe.out).trans HB.out;have c1:w1.cell? ⟨rb,1,none⟩=some (.bool false):=by unfold World.cell?;rw[hb1];rfl
 have f1:w1.frozen? ⟨rb,1,none⟩=false:=by unfold World.frozen?;rw[hb1];simp
 have e1:=setCell_same (i:=1) (v:=.bool false) hb1 rfl;have HX:Hid (FrR w1 rb pb s (j+n)∧Mod (fun k=>k=pb) w w1):=Lh ⟨⟨h1,hb1⟩,hm⟩;clear h1 hm hb1 HN HB c0;go_wp2
 first|exact⟨rfl,HX.out⟩|(go_ret;exact⟨rfl,HX.out⟩)
end Go.Proofs.YtehihecknhcggaaGreat.Fz
namespace Go.Proofs.YtehihecknhcggaaGreat.Fz
open Go.RowKit Word
theorem tail_take{s:ByteArray}{j n:Nat}{L r:List UInt8}(h:(tl s).drop j=L++r)(hl:L.length=n)(hj:j≤s.size):j+n≤s.size∧tl (s.extract j (j+n))=L∧(tl s).drop (j+n)=r:=by
 have h1:=congrArg List.length h;rw[List.length_drop,List.length_append,tl_len] at h1;have hn:j+n≤s.size:=by omega
 refine⟨hn, ?_, ?_⟩
 ·unfold tl at h⊢;rw[ByteArray.data_extract,Array.toList_extract,List.extract_eq_take_drop,h,show j+n - j=L.length by omega,List.take_left]
 ·rw[←List.drop_drop,h,←hl,List.drop_left]
theorem numV{w:World}{rb pb:Nat}{s:ByteArray}{j:Nat}(h:FrR w rb pb s j)(hs:s.size≤maxLen)(hj:j≤s.size){n:Nat}(hn:n=1∨n=2∨n=4){v:Int}(hf:fitN v n){r:List UInt8}(ht:(tl s).drop j=pL v n++r):
  Calls Tryz.prog 179 #[.pointer (some ⟨rb,0,none⟩),.int .i64 n] w fun e w'=>e=.returned (.int .u32 v)∧FrR w' rb pb s (j+n)∧Mod (fun k=>k=pb) w w'∧j+n≤s.size∧(tl s).drop (j+n)=r:=by
 obtain⟨h1,h2,h3⟩:=tail_take ht (pL_len v n (by omega)) hj;refine(num h hs n (by omega) (by omega) h1).mono ?_;rintro e w' ⟨rfl,k1,k2⟩;exact⟨by rw[get_pL hn hf h2],k1,k2,h1,h3⟩
theorem numV'{w:World}{rb pb:Nat}{s:ByteArray}{j:Nat}(h:RdrAt w pb s j)(hs:s.size≤maxLen)(hj:j≤s.size){n:Nat}(hn:n=1∨n=2∨n=4){v:Int}(hf:fitN v n){r:List UInt8}(ht:(tl s).drop j=pL v n++r):
  Calls Tryz.prog 253 #[.pointer (some ⟨pb,0,none⟩),.int .i64 n] w fun e w'=>e=.returned (.tuple #[.int .u32 v,.int .i64 0])∧RdrAt w' pb s (j+n)∧Mod (fun k=>k=pb) w w'∧j+n≤s.size∧(tl s).drop (j+n)=r:=by
 obtain⟨h1,h2,h3⟩:=tail_take ht (pL_len v n (by omega)) hj;refine(numR h hs n (by omega) (by omega) h1).mono ?_;rintro e w' ⟨rfl,k1,k2⟩;exact⟨by rw[get_pL hn hf h2],k1,k2,h1,h3⟩
theorem takeV{w:World}{pb:Nat}{s:ByteArray}{j:Nat}(h:RdrAt w pb s j)(hs:s.size≤maxLen)(hj:j≤s.size){t:ByteArray}{n:Nat}(hn:t.size=n){r:List UInt8}(ht:(tl s).drop j=tl t++r):
  Calls Tryz.prog 178 #[.pointer (some ⟨pb,0,none⟩),.int .i64 n] w fun e w'=>e=.returned (.tuple #[.string t,.int .i64 0])∧RdrAt w' pb s (j+n)∧Mod (fun k=>k=pb) w w'∧j+n≤s.size∧(tl s).drop (j+n)=r:=by
 obtain⟨h1,h2,h3⟩:=tail_take ht ((tl_len t).trans hn) hj;refine(takeR h hs n h1).mono ?_;rintro e w' ⟨rfl,k1,k2⟩;exact⟨by rw[tl_inj h2],k1,k2,h1,h3⟩
theorem takeP{w:World}{pb:Nat}{s:ByteArray}{j:Nat}(h:RdrAt w pb s j)(hs:s.size≤maxLen)(hj:j≤s.size){t:ByteArray}{n:Nat}(hn:t.size=n){r:List UInt8}(ht:(tl s).drop j=tl t++r):
  Calls Tryz.prog 252 #[.pointer (some ⟨pb,0,none⟩),.int .i64 n] w fun e w'=>e=.returned (.tuple #[.string t,.int .i64 0])∧RdrAt w' pb s (j+n)∧Mod (fun k=>k=pb) w w'∧j+n≤s.size∧(tl s).drop (j+n)=r:=by
 obtain⟨h1,h2,h3⟩:=tail_take ht ((tl_len t).trans hn) hj;refine(take h hs n h1).mono ?_;rintro e w' ⟨rfl,k1,k2⟩;exact⟨by rw[tl_inj h2],k1,k2,h1,h3⟩
theorem textV{w:World}{pb:Nat}{s:ByteArray}{j:Nat}(h:RdrAt w pb s j)(hs:s.size≤maxLen)(hj:j≤s.size){t:ByteArray}(hn:t.size<65536){r:List UInt8}(ht:(tl s).drop j=pL t.size 2++(tl t++r)):
  Calls Tryz.prog 184 #[.pointer (some ⟨pb,0,none⟩)] w fun e w'=>e=.returned (.tuple #[.string t,.int .i64 0])∧RdrAt w' pb s (j+2+t.size)∧Mod (fun k=>k=pb) w w'∧j+2+t.size≤s.size∧(tl s).drop (j+2+t.size)=r:=by
 have HN:=Lh (numV' (rb:=0) h hs hj (n:=2) (.inr (.inl rfl)) (v:=t.size) ⟨by omega,by show(t.size:Int)<256 ^ 2;omega⟩ ht);have HT:=Lh fun V (hv:RdrAt V pb s (j+2)) (hj2:j+2≤s.size) (h2:(tl s).drop (j+2)=tl t++r)=>takeP hv hs hj2 (n:=t.size) rfl h2
 have iw:IntKind.i64.wrap (t.size:Int)=t.size:=by rw[IntKind.wrap_i64];omega
 clear h hs hj hn ht;go_enter func184,ntmps184;go_wp2_with fail;refine HN.out.mono ?_;rintro e w1 ⟨rfl,h1,hm1,hj1,hd1⟩;have HT1:=Lh (HT.out w1 h1 hj1 hd1);have HM1:=Lh hm1;clear h1 hm1 hj1 hd1 HN HT;go_wp2_with fail;refine HT1.out.mono ?_;rintro e w2 ⟨rfl,h2,hm2,hj2,hd2⟩;have HX:Hid (RdrAt w2 pb s (j+2+t.size)∧Mod (fun k=>k=pb) w w2∧j+2+t.size≤s.size∧(tl s).drop (j+2+t.size)=r):=Lh ⟨h2,HM1.out.same hm2,hj2,hd2⟩;clear h2 hm2 hj2 hd2;go_wp2;go_ret2;exact⟨rfl,HX.out⟩
def manyRel(cnt:Nat)(I:Nat→World→Prop)(vi:Value)(wr:World):Prop:=∃i:Nat,i≤cnt∧vi=.int .u32 ((cnt - i:Nat):Int)∧I i wr
theorem many{w:World}{rb pb:Nat}{s:ByteArray}{j:Nat}(h:FrR w rb pb s j)(hs:s.size≤maxLen)(hj:j≤s.size){n:Nat}(hn:n=1∨n=2∨n=4){cnt:Nat}(hf:fitN cnt n){r:List UInt8}(ht:(tl s).drop j=pL cnt n++r)
  (f:Nat) (cap:Array Value) (eg:∀args V,(callFunc f args).run Tryz.prog V=.ok (.enter f args) V) (I:Nat→World→Prop)
  (h0:∀V,FrR V rb pb s (j+n)→Mod (fun k=>k=pb) w V→(tl s).drop (j+n)=r→j+n≤s.size→I 0 V)
  (hr:∀i V,I i V→∃k,FrR V rb pb s k) (hst:∀i V,i<cnt→I i V→Calls Tryz.prog f cap V fun e V'=>e=.returned (.tuple #[])∧I (i+1) V'):
  Calls Tryz.prog 180 #[.pointer (some ⟨rb,0,none⟩),.int .i64 n,.func (.func f) #[] cap] w fun e w'=>e=.returned (.tuple #[])∧I cnt w':=by
 have HN:=Lh (numV h hs hj hn hf ht);have hcu:(cnt:Int)≤4294967295:=by
  obtain⟨_,h1⟩:=hf;rcases hn with rfl|rfl|rfl<;>simp at h1<;>omega
 have HC:=Lh hcu;have H0:=Lh h0;have HR:=Lh hr;have HS:=Lh hst;clear h hs hj hn hf ht h0 hr hst hcu;go_enter func180,ntmps180;go_wp2_with fail;refine HN.out.mono ?_;rintro e w1 ⟨rfl,h1,hm1,hj1,hd1⟩;have HR0:Hid (manyRel cnt I (.int .u32 cnt) w1):=Lh ⟨0,Nat.zero_le _,rfl,H0.out w1 h1 hm1 hd1 hj1⟩;clear h1 hm1 hj1 hd1 HN H0;go_wp2;go_loopw [6] (fun vi wr=>manyRel cnt I vi wr) (fun vi _=>(intOf vi).toNat)
 case atStart=>exact HR0.out
 case round=>
  clear HR0;obtain⟨i,hi,rfl,hI⟩:=hrel;obtain⟨k,hk⟩:=HR.out i wr hI;have hk2:=hk.h;have c1:wr.cell? ⟨rb,1,none⟩=some (.bool false):=by unfold World.cell?;rw[hk2];rfl
  by_cases hin:i<cnt
  ·have ii:(0:Int)<((cnt - i:Nat):Int):=by omega
   have HSt:=Lh (HS.out i wr hin hI);have iw:IntKind.u32.wrap (((cnt - i:Nat):Int) - 1)=((cnt - (i+1):Nat):Int):=by have:=HC.out;rw[IntKind.wrap_u32];omega
   clear hI hk hk2;go_wp2_with fail;refine HSt.out.mono ?_;rintro e w2 ⟨rfl,hI2⟩;have fin:manyRel cnt I (.int .u32 ((cnt - (i+1):Nat):Int)) w2:=⟨i+1,hin,rfl,hI2⟩;have Fin:=Lh fin;clear fin hI2 HSt;go_wp2
   first|exact⟨Fin.out,by simp[intOf];omega⟩
  ·obtain rfl:i=cnt:=by omega
   have HI:=Lh hI;have e0:((i - i:Nat):Int)=0:=by omega
   rw[e0];clear hI hk hk2 e0;go_wp2
   first|exact⟨rfl,HI.out⟩|(go_end0;exact⟨rfl,HI.out⟩)
end Go.Proofs.YtehihecknhcggaaGreat.Fz
namespace Go.Proofs.YtehihecknhcggaaGreat.Fz
open Go.RowKit Word
structure Fp where
 addr:Int
 perm:Int
 own:Bool
 text:ByteArray
def Fp.cells(p:Fp):List Value:=[.int .u32 p.addr,.int .u8 p.perm,.bool p.own,.string p.text]
def pgC(l:List Fp):List Value:=l.flatMap Fp.cells
theorem pgC_len(l:List Fp):(pgC l).length=l.length*4:=by
 unfold pgC
 induction l with
 |nil=>rfl
 |cons x l ih=>rw[List.flatMap_cons,List.length_append,ih];show 4+_=_;simp;omega
theorem pgC_app(a b:List Fp):pgC (a++b)=pgC a++pgC b:=List.flatMap_append
theorem pgC_one(l:List Fp):∀u,u∈pgC l→u.oneCell'=true:=fun u hu=>by
 obtain⟨x,_,hx⟩:=List.mem_flatMap.1 hu;simp[Fp.cells] at hx;rcases hx with rfl|rfl|rfl|rfl<;>rfl
theorem pgC_at:∀(l:List Fp) (i:Nat) (x:Fp),l[i]? =some x→∀j,j<4→(pgC l)[i*4+j]? =x.cells[j]?
 | [],i,x,h,j,hj=>by simp at h
 |y::l,0,x,h,j,hj=>by
  simp at h;subst h;have e:pgC (y::l)=y.cells++pgC l:=rfl;rw[e,Nat.zero_mul,Nat.zero_add,List.getElem?_append_left (by simpa [Fp.cells] using hj)]
 |y::l,i+1,x,h,j,hj=>by
  have:=pgC_at l i x (by simpa using h) j hj;have e:pgC (y::l)=y.cells++pgC l:=rfl;rw[e,List.getElem?_append_right (by simp[Fp.cells];omega),←this]
  congr 1
  simp[Fp.cells];omega
structure Fr where
 m:Mn
 r:Nat→Int
 pc:Int
 sp:List Fp
 text:ByteArray
def Fr.arr(x:Fr)(ev pv sv:Value):Array Value:= #[.int .u32 x.m.pages,ev,pv,.bool x.m.con,.int .u32 (x.r 0),.int .u32 (x.r 1),.int .u32 (x.r 2),.int .u32 (x.r 3),.int .u32 (x.r 4),.int .u32 (x.r 5),.int .u32 (x.r 6),.int .u32 (x.r 7),.int .u32 (x.r 8),.int .u32 (x.r 9),.int .u32 (x.r 10),.int .u32 (x.r 11),.int .u32 (x.r 12),.int .u32 (x.r 13),.int .u32 (x.r 14),.int .u32 (x.r 15),.int .u32 x.pc,sv,.string x.text]
def upd(r:Nat→Int)(i:Nat)(v:Int):Nat→Int:=fun k=>if k=i then v else r k
theorem arr_reg(x:Fr)(ev pv sv:Value)(i:Nat)(hi:i<16)(v:Int):(x.arr ev pv sv).setIfInBounds (4+i) (.int .u32 v)=({x with r:=upd x.r i v}:Fr).arr ev pv sv:=by
 have:i=0∨i=1∨i=2∨i=3∨i=4∨i=5∨i=6∨i=7∨i=8∨i=9∨i=10∨i=11∨i=12∨i=13∨i=14∨i=15:=by omega
 rcases this with rfl|rfl|rfl|rfl|rfl|rfl|rfl|rfl|rfl|rfl|rfl|rfl|rfl|rfl|rfl|rfl<;>rfl
theorem arr_getr(x:Fr)(ev pv sv:Value)(i:Nat)(hi:i<16):(x.arr ev pv sv)[4+i]? =some (.int .u32 (x.r i)):=by
 have:i=0∨i=1∨i=2∨i=3∨i=4∨i=5∨i=6∨i=7∨i=8∨i=9∨i=10∨i=11∨i=12∨i=13∨i=14∨i=15:=by omega
 rcases this with rfl|rfl|rfl|rfl|rfl|rfl|rfl|rfl|rfl|rfl|rfl|rfl|rfl|rfl|rfl|rfl<;>rfl
def FBox(w:World)(xb:Nat)(x:Fr)(ev pv sv:Value):Prop:=w.heap[xb]? =some (.cells (x.arr ev pv sv) 52 (0,0))
theorem FBox.cell{w:World}{xb:Nat}{x:Fr}{ev pv sv:Value}(h:FBox w xb x ev pv sv)(j:Nat)(v:Value)(hv:(x.arr ev pv sv)[j]? =some v):w.cell? ⟨xb,j,none⟩=some v:=by
 unfold FBox at h;unfold World.cell?;rw[h];exact hv
theorem FBox.thaw{w:World}{xb:Nat}{x:Fr}{ev pv sv:Value}(h:FBox w xb x ev pv sv)(j:Nat):w.frozen? ⟨xb,j,none⟩=false:=by
 unfold FBox at h;unfold World.frozen?;rw[h];simp
theorem FBox.keep{F:Nat→Prop}{w w':World}{xb:Nat}{x:Fr}{ev pv sv:Value}(h:FBox w xb x ev pv sv)(hm:Mod F w w')(hf:¬F xb):FBox w' xb x ev pv sv:=(hm.block _ (lQ h) hf).trans h
theorem FBox.set{w:World}{xb:Nat}{x y:Fr}{ev pv sv ev' pv' sv':Value}(h:FBox w xb x ev pv sv)(j:Nat)(v:Value)(he:(x.arr ev pv sv).setIfInBounds j v=y.arr ev' pv' sv'):FBox (w.setCell ⟨xb,j,none⟩ v) xb y ev' pv' sv':=by
 have:=heap_setCell_same w xb j _ _ v h;rw[he] at this;exact this
structure FrIn(w:World)(x:Fr)(ev pv sv:Value):Prop where
 m:MnAt w ev pv x.m
 s:SlV w 151 4 sv x.sp.length (pgC x.sp)
theorem FrIn.below{w w':World}{x:Fr}{ev pv sv:Value}(h:FrIn w x ev pv sv)(hb:Below w.heap.size w w'):FrIn w' x ev pv sv:=⟨h.m.below hb,h.s.below hb⟩
def Fp.may(p:Fp):Prop:=p.addr % 256=0∧p.addr<1048576∧p.perm≤7∧p.text.size=256∧(p.own=false∨p.perm=3∧256≤p.addr)
structure Fr.ok(x:Fr):Prop where
 m:x.m.ok
 r:∀i,0≤x.r i∧x.r i≤4294967295
 c:0≤x.pc∧x.pc≤4294967295
 s:∀p,p∈x.sp→(0≤p.addr∧p.addr≤4294967295)∧0≤p.perm∧p.perm≤255
def owns(l:List Fp):Nat:=(l.filter fun p=>p.own).length
structure Fr.may(x:Fr):Prop where
 pg:∀p,p∈x.sp→p.may
 up:x.sp.Pairwise fun p q=>p.addr<q.addr
 m:Gp.checkE x.m=0
 r0:x.r 0=0
 own:(owns x.sp:Int)≤x.m.pages
 tx:x.text.size≤4096
 con:x.m.con=true∨x.text.size=0
def bit01(b:Bool):Int:=if b then 1 else 0
def pageL(p:Fp):List UInt8:=pL p.addr 4++(pL p.perm 1++(pL (bit01 p.own) 1++tl p.text))
def manL(m:Mn):List UInt8:=pL m.pages 4++(pL m.ext.length 1++((m.ext.flatMap fun x=>pL x.1 1++pL x.2 2)++(pL m.ports.length 1++((m.ports.flatMap fun p=>pL p 2)++pL (bit01 m.con) 1))))
def regL(r:Nat→Int):List Int:=[r 1,r 2,r 3,r 4,r 5,r 6,r 7,r 8,r 9,r 10,r 11,r 12,r 13,r 14,r 15]
def putL'(x:Fr):List UInt8:=[65,70,90,49]++(pL x.pc 4++(bytesL 4 (regL x.r)++(manL x.m++(pL x.sp.length 2++(x.sp.flatMap pageL++(pL x.text.size 2++tl x.text))))))
end Go.Proofs.YtehihecknhcggaaGreat.Fz
namespace Go.Proofs.YtehihecknhcggaaGreat.Rd
open Go.ChangeShapes Go.WideShapes Go.Deep
section
variable {H:Type} {enc:TypeId×Value→H} {P:Program} {w:World} {base:Nat} {spare:Nat→Bool} {held:Bool}
variable {t:TypeId} {fuel:Nat} {v:Value} {y:DataW H×List MemPlace}
theorem rd_nums{e:TypeId}{k:IntKind}{N:Nat}(ht:P.underlying t=some (.array N e))(he:P.underlying e=some (.int k))(hC:P.cellsOf e=1)(hCN:P.cellsOf t=N){cs:List Value}(h:DataW.trod enc P w base spare held fuel t cs=some y):
  ∃c:Nat→Int,cs=(List.range N).map (fun i=>.int k (c i))∧∀i,i<N→(Lit.int k (c i)).wf=true:=by
 obtain⟨xs,m,_,_,hlen,hxl,hf⟩:=DataW.trod_array ht h;rw[hCN] at hlen;have hone:∀i,∃x,i<N→cs[i]? =some (.int k x)∧(Lit.int k x).wf=true:=fun i=>by
  by_cases hi:i<N
  ·have h1:=hf i hi;rw[hC,Nat.mul_one] at h1;have h2:(cs.drop i).take 1=[cs[i]'(by omega)]:=by
    rw[List.drop_eq_getElem_cons (by omega)];rfl
   rw[h2,Zg (by omega)] at h1;obtain⟨x,hx,hw⟩:=rd_int he h1;exact⟨x,fun _=>⟨by rw[Zg (by omega),hx],hw⟩⟩
  ·exact⟨0,fun g=>absurd g hi⟩
 obtain⟨c,hc⟩:=Classical.axiomOfChoice hone;refine⟨c,List.ext_getElem? fun i=> ?_,fun i hi=>(hc i hi).2⟩
 by_cases hi:i<N
 ·rw[(hc i hi).1,List.getElem?_map,List.getElem?_range hi];rfl
 ·rw[List.getElem?_eq_none (by omega),List.getElem?_eq_none (by rw[List.length_map,List.length_range];omega)]
end
end Go.Proofs.YtehihecknhcggaaGreat.Rd
namespace Go.Proofs.YtehihecknhcggaaGreat.Fz
open Go.RowKit In
def pgQ(g:Nat→Option Value)(p:Fp):Prop:=(∀j,j<4→g j=p.cells[j]?)∧(0≤p.addr∧p.addr≤4294967295)∧(0≤p.perm∧p.perm≤255)∧p.text.size<140737488355328
theorem page_read{H:Type}{enc:TypeId×Value→H}{w:World}{base:Nat}{spare:Nat→Bool}{held:Bool}(cs:List Value)(n:Nat)(z:DataW H×List MemPlace)(g:Nat→Option Value)
  (h:DataW.trod enc Tryz.prog w base spare held n 151 cs=some z) (hw:Rd.Wt Tryz.prog 151 z.1) (hl:cs.length=4) (hg:∀j,j<4→g j=cs[j]?):∃x:Fp,pgQ g x:=by
 obtain⟨_,hs⟩:=Rd.rd_struct Tryz.underlying151 (by kernel_rfl) (by kernel_rfl) h hw;obtain⟨v0,z0,n0,e0,t0,q0⟩:=hs 0 _ rfl;obtain⟨x0,rfl,w0⟩:=Rd.rd_int Tryz.underlying41 t0;obtain⟨v1,z1,n1,e1,t1,q1⟩:=hs 1 _ rfl;obtain⟨x1,rfl,w1⟩:=Rd.rd_int Tryz.underlying5 t1;obtain⟨v2,z2,n2,e2,t2,q2⟩:=hs 2 _ rfl;obtain⟨x2,rfl⟩:=Rd.rd_bool Tryz.underlying4 t2;obtain⟨v3,z3,n3,e3,t3,q3⟩:=hs 3 _ rfl;obtain⟨x3,rfl,w3⟩:=Rd.rd_str Tryz.underlying9 t3 q3;refine⟨⟨x0,x1,x2,x3⟩,fun j hj=>(hg j hj).trans ?_,bounds_u32 w0,(by have:=Cp.bounds_u8' w1;omega),w3⟩
 match j,hj with
 |0,_=>exact e0
 |1,_=>exact e1
 |2,_=>exact e2
 |3,_=>exact e3
structure FrI where
 x:Fr
 ea:Option Addr
 ecap:Nat
 pa:Option Addr
 pcap:Nat
 sa:Option Addr
 scap:Nat
def FrI.mi(d:FrI):MnI:=⟨d.x.m,d.ea,d.ecap,d.pa,d.pcap⟩
def FrI.sv(d:FrI):Value:=.slice d.sa d.x.sp.length d.scap
def FrI.cells(d:FrI):Array Value:=d.x.arr d.mi.ev d.mi.pv d.sv
structure Pgs(w:World)(a:Option Addr)(l:List Fp):Prop where
 cell:∀i (h:i<l.length),∃g o,a=some ⟨g,o,none⟩∧∀j,j<4→w.cell? ⟨g,o+i*4+j,none⟩=l[i].cells[j]?
 bd:∀p,p∈l→(0≤p.addr∧p.addr≤4294967295)∧(0≤p.perm∧p.perm≤255)∧p.text.size<140737488355328
 len:l.length≤9223372036854775807
theorem Pgs.below{w w':World}{a:Option Addr}{l:List Fp}(h:Pgs w a l)(hb:Below w.heap.size w w'):Pgs w' a l:=
 ⟨fun i hi=>by
  obtain⟨g,o,e,hc⟩:=h.cell i hi;have hl:g<w.heap.size:=by
   have:=hc 0 (by omega);unfold World.cell? at this;cases hg:w.heap[g]? with
   |none=>rw[hg] at this;cases this
   |some _=>exact lQ hg
  exact⟨g,o,e,fun j hj=>(World.cell?_of_block (w:=w) (hb.block g hl)).trans (hc j hj)⟩,h.bd,h.len⟩
structure FrI.pre(w:World)(d:FrI):Prop where
 m:d.mi.pre w
 ok:d.x.ok
 s:Pgs w d.sa d.x.sp
 t:d.x.text.size<140737488355328
 z:d.x.m.ext.length<140737488355328∧d.x.m.ports.length<140737488355328
theorem sl_pgs{w:World}{a:Option Addr}{cap:Nat}{xs:List Fp}(h:Rd.Sl w 4 pgQ a cap xs):Pgs w a xs:=by
 refine⟨fun i hi=> ?_,fun p hp=> ?_,by have h1:=h.1;have h2:=h.2.1;unfold maxLen at h2;omega⟩
 ·rcases h.2.2.1 with rfl|⟨b,off,rfl,hq⟩
  ·exact absurd hi (by simp)
  ·exact⟨b,off,rfl,(hq i _ (Zg hi)).1⟩
 ·obtain⟨i,hi⟩:=List.getElem?_of_mem hp;rcases h.2.2.1 with rfl|⟨b,off,_,hq⟩
  ·cases hp
  ·exact(hq i p hi).2
theorem range16{α:Type}(f:Nat→α):(List.range 16).map f=[f 0,f 1,f 2,f 3,f 4,f 5,f 6,f 7,f 8,f 9,f 10,f 11,f 12,f 13,f 14,f 15]:=rfl
theorem fz_read{H:Type}{enc:TypeId×Value→H}{w:World}{base:Nat}{spare:Nat→Bool}{held:Bool}(cs:List Value)(n:Nat)(z:DataW H×List MemPlace)
  (h:DataW.trod enc Tryz.prog w base spare held n 52 cs=some z) (hw:Rd.Wt Tryz.prog 52 z.1) (hl:cs.length=23):∃d:FrI,cs=d.cells.toList∧d.pre w:=by
 match cs,hl with
 | [c0,c1,c2,c3,r0,r1,r2,r3,r4,r5,r6,r7,r8,r9,r10,r11,r12,r13,r14,r15,c4,c5,c6],_=>
  have hs:=Rd.rd_part Tryz.underlying52 h hw;obtain⟨z0,n0,t0,q0⟩:=hs 0 _ rfl;obtain⟨z1,n1,t1,q1⟩:=hs 1 _ rfl;obtain⟨z2,n2,t2,q2⟩:=hs 2 _ rfl;obtain⟨z3,n3,t3,q3⟩:=hs 3 _ rfl;obtain⟨z4,n4,t4,q4⟩:=hs 4 _ rfl;have t0:DataW.trod enc Tryz.prog w base spare held n0 48 (([c0,c1,c2,c3,r0,r1,r2,r3,r4,r5,r6,r7,r8,r9,r10,r11,r12,r13,r14,r15,c4,c5,c6].drop 0).take (Tryz.prog.cellsOf 48))=some z0:=t0;rw[show Tryz.prog.cellsOf 48=4 from by kernel_rfl] at t0;have q0:Rd.Wt Tryz.prog 48 z0.1:=q0;have t1:DataW.trod enc Tryz.prog w base spare held n1 49 (([c0,c1,c2,c3,r0,r1,r2,r3,r4,r5,r6,r7,r8,r9,r10,r11,r12,r13,r14,r15,c4,c5,c6].drop 4).take (Tryz.prog.cellsOf 49))=some z1:=t1;rw[show Tryz.prog.cellsOf 49=16 from by kernel_rfl] at t1;have t2:DataW.trod enc Tryz.prog w base spare held n2 41 (([c0,c1,c2,c3,r0,r1,r2,r3,r4,r5,r6,r7,r8,r9,r10,r11,r12,r13,r14,r15,c4,c5,c6].drop 20).take (Tryz.prog.cellsOf 41))=some z2:=t2;rw[show Tryz.prog.cellsOf 41=1 from by kernel_rfl] at t2;have t3:DataW.trod enc Tryz.prog w base spare held n3 50 (([c0,c1,c2,c3,r0,r1,r2,r3,r4,r5,r6,r7,r8,r9,r10,r11,r12,r13,r14,r15,c4,c5,c6].drop 21).take (Tryz.prog.cellsOf 50))=some z3:=t3;rw[show Tryz.prog.cellsOf 50=1 from by kernel_rfl] at t3;have q3:Rd.Wt Tryz.prog 50 z3.1:=q3;have t4:DataW.trod enc Tryz.prog w base spare held n4 9 (([c0,c1,c2,c3,r0,r1,r2,r3,r4,r5,r6,r7,r8,r9,r10,r11,r12,r13,r14,r15,c4,c5,c6].drop 22).take (Tryz.prog.cellsOf 9))=some z4:=t4;rw[show Tryz.prog.cellsOf 9=1 from by kernel_rfl] at t4;have q4:Rd.Wt Tryz.prog 9 z4.1:=q4;obtain⟨m,hm,pm,pz⟩:=man_readB [c0,c1,c2,c3] n0 z0 t0 q0 rfl;obtain⟨c,hc,wc⟩:=Rd.rd_nums (cs:=[r0,r1,r2,r3,r4,r5,r6,r7,r8,r9,r10,r11,r12,r13,r14,r15]) Tryz.underlying49 Tryz.underlying41 (by kernel_rfl) (by kernel_rfl) t1;obtain⟨pc,rfl,wp⟩:=Rd.rd_int Tryz.underlying41 (v:=c4) t2;obtain⟨sa,scap,sp,rfl,ss,sl⟩:=Rd.rd_slice (v:=c5) Tryz.underlying50 4 (by kernel_rfl) (by omega) pgQ (fun cs n z g=>page_read cs n z g) t3 q3;obtain⟨tx,rfl,wt⟩:=Rd.rd_str Tryz.underlying9 (v:=c6) t4 q4;rw[range16] at hc;simp only[List.cons.injEq,and_true] at hc;obtain⟨rfl,rfl,rfl,rfl,rfl,rfl,rfl,rfl,rfl,rfl,rfl,rfl,rfl,rfl,rfl,rfl⟩:=hc;have hm:[c0,c1,c2,c3]=[.int .u32 m.m.pages,m.ev,m.pv,.bool m.m.con]:=hm;simp only[List.cons.injEq,and_true] at hm;obtain⟨rfl,rfl,rfl,rfl⟩:=hm;have hs:=sl_pgs ss;refine⟨⟨⟨m.m,fun i=>if i<16 then c i else 0,pc,sp,tx⟩,m.ea,m.ecap,m.pa,m.pcap,sa,scap⟩,rfl,⟨pm,⟨pm.ok,fun i=> ?_,bounds_u32 wp,fun p hp=>⟨(hs.bd p hp).1,(hs.bd p hp).2.1.1,(hs.bd p hp).2.1.2⟩⟩,hs,wt,pz⟩⟩
  show 0≤(if i<16 then c i else 0)∧(if i<16 then c i else 0)≤4294967295
  split
  ·rename_i q
   exact bounds_u32 (wc i q)
  ·omega
end Go.Proofs.YtehihecknhcggaaGreat.Fz
