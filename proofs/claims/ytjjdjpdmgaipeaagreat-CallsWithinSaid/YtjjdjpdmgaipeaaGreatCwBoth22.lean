/- Both22, Bes22, PlP, WiL, WiM in one text. -/
import Derived.Test.YtjjdjpdmgaipeaaGreatCwR22N
import Derived.Test.YtjjdjpdmgaipeaaGreatCwMade
import Derived.Test.YtjjdjpdmgaipeaaGreatCwR19D
import Derived.OwnWalk
import Derived.Test.YtjjdjpdmgaipeaaGreatCwQuad
import Derived.Test.YtjjdjpdmgaipeaaGreatCwWi22B
import Derived.StillTailTactics
import Derived.Test.YtjjdjpdmgaipeaaGreatCwWi22E
import Derived.Test.YtjjdjpdmgaipeaaGreatCwKdoG
import Derived.Test.YtjjdjpdmgaipeaaGreatCwZa
set_option linter.unusedVariables false
set_option linter.unusedSimpArgs false
set_option maxRecDepth 100000
set_option maxHeartbeats 16000000
open Go.Proofs.Tryz
namespace Go.Proofs.YtjjdjpdmgaipeaaGreat
open Go.RowKit
namespace L22
open In
structure Fresh(d:WdI)(K:Kn):Prop where
 hp:K.hp=d.h.p
 hx:K.hx=d.h.l
 g:K.g=fun _=>none
 N:K.N=Ni.newS
 B:∀i j,(Kn.block K.B i j).isSome=(Kn.block (Kn.new d.h.p d.h.l).B i j).isSome
theorem Fresh.new(d:WdI):Fresh d (Kn.new d.h.p d.h.l):=⟨rfl,rfl,rfl,rfl,fun _ _=>rfl⟩
theorem Fresh.set{d:WdI}{K:Kn}(h:Fresh d K)(id n:Int)(s:ByteArray):Fresh d (K.setBlock id n s):=by
 have e:(K.setBlock id n s).hp=K.hp∧(K.setBlock id n s).hx=K.hx∧(K.setBlock id n s).g=K.g∧(K.setBlock id n s).N=K.N:=by
  unfold Kn.setBlock
  split<;>exact⟨rfl,rfl,rfl,rfl⟩
 exact⟨e.1.trans h.hp,e.2.1.trans h.hx,e.2.2.1.trans h.g,e.2.2.2.trans h.N,fun i j=>(Wi.set_some K id n s i j).trans (h.B i j)⟩
def asked(d:WdI)(K:Kn):Kn:=if Ca.grantE K.hp K.hx K.g 1 d.m.m 0=0 then {K with g:=Gp.upd K.g 1 (some ⟨d.m.m,0,0⟩)} else K
def BothP(w:World)(d:WdI)(e:Ending)(w':World):Prop:=
 (Ca.hardOk d.h.p d.h.l=true∧∃a b K,e=.returned (.tuple #[.pointer (some ⟨a.kb,0,none⟩),.pointer (some ⟨b.kb,0,none⟩),.bool true])∧KPair w w' a (asked d K) b (asked d K)∧Fresh d K)∨
 (Ca.hardOk d.h.p d.h.l=false∧e=.returned (.tuple #[.pointer none,.pointer none,.bool true])∧Below w.heap.size w w')
def boRel(w1:World)(d:WdI)(bx kb rb:Nat)(wr:World):Prop:=∃a b K,KPair w1 wr a K b K∧a.kb=kb∧b.kb=rb∧Fresh d K
def boO(w1:World)(d:WdI)(bx kb rb:Nat)(vi:Value)(wr:World):Prop:=∃i:Nat,i≤d.bl.length∧vi=.int .i64 i∧boRel w1 d bx kb rb wr
def boI(w1:World)(d:WdI)(bx kb rb:Nat)(vi:Value)(wr:World):Prop:=∃i:Nat,i≤d.h.l.length∧vi=.int .u32 i∧boRel w1 d bx kb rb wr
theorem setE_or(K:Kn)(id n:Int)(s:ByteArray)(hs:s.size=64):Kn.setE K.B id n s=if(Kn.block K.B id n).isSome=true then 0 else 2:=by
 unfold Kn.setE;cases h:Kn.block K.B id n with
 |none=>simp
 |some t=>simp[hs]
theorem setBlock_none(K:Kn)(id n:Int)(s:ByteArray)(hs:s.size=64)(h:(Kn.block K.B id n).isSome=false):K.setBlock id n s=K:=by
 unfold Kn.setBlock;rw[setE_or K id n s hs,h];rfl
theorem pair{w1 w2 w3 w4:World}{a:KAt}{b:RkAt}{K:Kn}{la:Option Addr}{cap:Nat}{xs:List Int}(hwd:Rs.Words w1 la xs)(hk:Knl w2 a K)(ha:∀k,a.tag k≠0→w1.heap.size≤k)(b12:Below w1.heap.size w1 w2)(b23:Below w2.heap.size w2 w3)
  (hb:Rkl w4 b K) (ht:∀k,b.tag k≠0→w3.heap.size≤k∨b.tag k=5∧xs.length≠0∧(Value.slice la xs.length cap).ownBlock=some k) (b34:Below w3.heap.size w3 w4):KPair w1 w4 a K b K:=by
 have z1:=b12.size;have z2:=b23.size;refine⟨hk.below (below_th b23 b34),hb,fun k hk'=> ?_,below_th (below_th b12 b23) b34,ha,fun k hk'=> ?_⟩
 ·refine Decidable.byContradiction fun z=> ?_
  have h1:=ha k hk';have h2:=hk.lt k hk';rcases ht k z with g|⟨_,g1,g2⟩
  ·omega
  ·obtain⟨g,o,e,hc⟩:=hwd.cell 0 (by omega);subst e;have g2:some g=some k:=g2;cases g2;have:=cell_lt hc;omega
 ·rcases ht k hk'.1 with g|g
  ·omega
  ·exact absurd g.1 hk'.2
theorem both(w:World)(d:WdI)(hd:d.pre w)(hbl:d.bl.length≤60)(hme:d.m.m.ext.length≤40)(hmp:d.m.m.ports.length≤40):Calls Tryz.prog 10 #[.agg d.cells] w (BothP w d):=by
 have hb:Below w.heap.size w (w.alloc (.cells d.cells 37)):=(Below.refl _ _).alloc (Nat.le_refl _) _;have hbx:WBox (w.alloc (.cells d.cells 37)) w.heap.size d:=⟨heap_alloc_new w _⟩;have HBx:=Lh hbx;have HB:=Lh hb;have HWd:=Lh (Ca.words_below hd.h.w hb);have HBd:=Lh hd.h.bd;have HP0:=Lh hd.h.p0;have HM:=Lh (hd.m.below hb);have HTx:=Lh (hd.b.below hb);have HBl:=Lh hbl;have HMl:=Lh (And.intro hme hmp);obtain⟨w1,hw1⟩:∃w1,w.alloc (.cells d.cells 37)=w1:=⟨_,rfl⟩;obtain⟨bx,hbxe⟩:∃bx,w.heap.size=bx:=⟨_,rfl⟩;rw[hw1] at HBx HB HWd HM HTx;rw[hbxe] at HBx;have HFin1:Hid (∀V a b K,Ca.hardOk d.h.p d.h.l=true→KPair w1 V a (asked d K) b (asked d K)→Fresh d K→BothP w d (.returned (.tuple #[.pointer (some ⟨a.kb,0,none⟩),.pointer (some ⟨b.kb,0,none⟩),.bool true])) V):=Lh fun V a b K h0 h1 h2=>.inl ⟨h0,a,b,K,rfl,h1.weaken HB.out,h2⟩
 have HFin2:Hid (∀V,Ca.hardOk d.h.p d.h.l=false→Below w1.heap.size w1 V→BothP w d (.returned (.tuple #[.pointer none,.pointer none,.bool true])) V):=Lh fun V h1 h2=>.inr ⟨h1,rfl,below_th HB.out h2⟩
 generalize BothP w d=PQ at*;clear hb hbx hd hbl hme hmp;have HC:Hid (∀W,Below w1.heap.size w1 W→W.cell? ⟨bx,0,none⟩=some (.int .u32 d.h.p)∧W.cell? ⟨bx,1,none⟩=some (.slice d.h.a d.h.l.length d.h.cap)∧W.cell? ⟨bx,2,none⟩=some (.int .u32 d.m.m.pages)∧W.cell? ⟨bx,3,none⟩=some (.slice d.m.ea d.m.m.ext.length d.m.ecap)∧W.cell? ⟨bx,4,none⟩=some (.slice d.m.pa d.m.m.ports.length d.m.pcap)∧W.cell? ⟨bx,5,none⟩=some (.bool d.m.m.con)∧W.cell? ⟨bx,13,none⟩=some (.slice d.ba d.bl.length d.bcap)):=Lh fun W hW=>by
  have h:=HBx.out.below hW;exact⟨h.cell 0 _ rfl,h.cell 1 _ rfl,h.cell 2 _ rfl,h.cell 3 _ rfl,h.cell 4 _ rfl,h.cell 5 _ rfl,h.cell 13 _ rfl⟩
 unfold WdI.cells HdI.v MnI.ev MnI.pv at hw1⊢;obtain⟨ba,hba⟩:∃x,d.ba=x:=⟨_,rfl⟩;rw[hba] at hw1 HTx HC⊢;clear hba;obtain⟨c0,c1,c2,c3,c4,c5,c13⟩:=HC.out w1 (Below.refl _ _);go_enter func10,ntmps10;cases hok:Ca.hardOk d.h.p d.h.l with
 |false=>
  go_wp2_with fail;try rw[hw1]
  try rw[hbxe]
  clear hw1 hbxe;refine(Kl.new_bad HWd.out HBd.out HP0.out hok).mono ?_;rintro e w2 ⟨rfl,hb2⟩;obtain⟨c0,c1,c2,c3,c4,c5,c13⟩:=HC.out w2 hb2;have HB2:=Lh hb2;clear hb2;go_wp2_with fail;refine(R19.may (Ca.words_below HWd.out HB2.out) HBd.out HP0.out).mono ?_;rintro e w3 ⟨rfl,hb3⟩;rw[hok];have HE:=Lh (HFin2.out w3 hok (below_th HB2.out hb3));clear hb3 c0 c1 c2 c3 c4 c5 c13 HFin1 HFin2;go_wp2
  first|exact HE.out|(go_ret;exact HE.out)|(go_ret3;exact HE.out)
 |true=>
  go_wp2_with fail;try rw[hw1]
  try rw[hbxe]
  clear hw1 hbxe;refine(Kl.new HWd.out HBd.out HP0.out hok).mono ?_;rintro e w2 ⟨a,rfl,hk2,ha2,hb2⟩;obtain⟨c0,c1,c2,c3,c4,c5,c13⟩:=HC.out w2 hb2;have HB2:=Lh hb2;have HA:=Lh ha2;have HK2:=Lh hk2;clear hb2 ha2 hk2;go_wp2_with fail;refine(R19.may (Ca.words_below HWd.out HB2.out) HBd.out HP0.out).mono ?_;rintro e w3 ⟨rfl,hb3⟩;rw[hok];have HB3:=Lh hb3;have HK3:=Lh (HK2.out.below hb3);obtain⟨c0,c1,c2,c3,c4,c5,c13⟩:=HC.out w3 (below_th HB2.out hb3);clear hb3;go_wp2_with fail;refine(Kl.caps HK3.out).mono ?_;rintro e w4 ⟨rfl,rfl⟩;go_wp2_with fail;refine(Kl.nic HK3.out).mono ?_;rintro e w4 ⟨rfl,rfl⟩;go_wp2_with fail;refine(Rk.new (Ca.words_below HWd.out (below_th HB2.out HB3.out)) HBd.out HP0.out hok).mono ?_;rintro e w4 ⟨b,rfl,hr4,hhv,ht4,hb4⟩;have hpr:=pair (cap:=d.h.cap) HWd.out HK2.out HA.out HB2.out HB3.out hr4 (fun k hk=>(ht4 k hk).imp id fun z=>z) hb4;obtain⟨kb,hkb⟩:∃x,a.kb=x:=⟨_,rfl⟩;obtain⟨rb,hrb⟩:∃x,b.kb=x:=⟨_,rfl⟩;have HR0:Hid (boRel w1 d bx kb rb w4):=Lh ⟨a,b,_,hpr,hkb,hrb,Fresh.new d⟩;obtain⟨c0,c1,c2,c3,c4,c5,c13⟩:=HC.out w4 hpr.bel;rw[hkb,hrb];clear hpr hkb hrb hr4 hhv ht4 hb4 HK3 HB3 HK2 HA HB2 HP0;go_wp2;clear c0 c1 c2 c3 c4 c5 c13;go_loopw [8,9,10,11] (fun vi _ _ _ wr=>boO w1 d bx kb rb vi wr) (fun vi _ _ _ _=>d.bl.length - (intOf vi).toNat)
  case atStart=>exact⟨0,Nat.zero_le _,rfl,HR0.out⟩
  case round=>
   clear HR0;obtain⟨i,hi,rfl,a,b,K,hpr,hkb,hrb,hfr⟩:=hrel;obtain⟨c0,c1,c2,c3,c4,c5,c13⟩:=HC.out wr hpr.bel;have HPr:=Lh hpr;have HKb:=Lh hkb;have HRb:=Lh hrb;have HFr:=Lh hfr;clear hpr hkb hrb hfr
   by_cases hin:i<d.bl.length
   ·have ii:(i:Int)<d.bl.length:=by omega
    have HR1:Hid (boI w1 d bx kb rb (.int .u32 0) wr):=Lh ⟨0,Nat.zero_le _,rfl,a,b,K,HPr.out,HKb.out,HRb.out,HFr.out⟩;go_wp2;clear c0 c1 c2 c3 c4 c5 c13 HPr HKb HRb HFr;generalize wr=wo at*;go_loopw [9,10,11] (fun vi _ _ wr=>boI w1 d bx kb rb vi wr) (fun vi _ _ _=>d.h.l.length - (intOf vi).toNat)
    case atStart=>exact HR1.out
    case round=>
     clear HR1;obtain⟨j,hj,rfl,a,b,K,hpr,hkb,hrb,hfr⟩:=hrel;obtain⟨c0,c1,c2,c3,c4,c5,c13⟩:=HC.out wr hpr.bel;have HPr:=Lh hpr;have HKb:=Lh hkb;have HRb:=Lh hrb;have HFr:=Lh hfr;have hl16:d.h.l.length≤16:=by
      unfold Ca.hardOk at hok;simp only[Bool.and_eq_true,decide_eq_true_eq] at hok;exact hok.1.2
     have wl:IntKind.u32.wrap (d.h.l.length:Int)=d.h.l.length:=wrap32 (by omega) (by omega);clear hpr hkb hrb hfr
     by_cases hjn:j<d.h.l.length
     ·have jj:(j:Int)<d.h.l.length:=by omega
      have hb60:=HBl.out;obtain⟨q,hq⟩:∃q,i / 2=q:=⟨_,rfl⟩;have q60:q≤60:=by omega
      have dq:Int.tdiv (i:Int) 2=q:=by rw[Int.tdiv_eq_ediv_of_nonneg (by omega)];omega
      have wq:IntKind.u32.wrap (q:Int)=q:=wrap32 (by omega) (by omega);have wqi:IntKind.i64.wrap (q:Int)=q:=by rw[IntKind.wrap_i64];omega
      have wj:IntKind.u32.wrap ((j:Int)+1)=j+1:=wrap32 (by omega) (by omega);obtain⟨g,o,ea,hc⟩:=HTx.out.cell i hin;have hsz:=HTx.out.sz _ (List.getElem_mem hin);have hcell:=fun W (hW:Below w1.heap.size w1 W)=>(hW.cell (p:=⟨g,_,none⟩) (cell_lt hc)).trans hc
      have HCe:=Lh hcell;have ce:=hcell wr HPr.out.bel;generalize d.bl[i]=s at*;have HSz:=Lh hsz;subst ea;clear hc hcell hsz hq;go_wp2_with fail;refine(Bk.block _ s HSz.out).mono ?_;rintro e w5 ⟨rfl,hb5⟩;have HP5:=Lh (HPr.out.below hb5);have hset:=Kl.setBlock HP5.out.p (j:Int) (q:Int) (Bk.text s) (by omega) (by omega) (by omega) (by omega) (by rw[Bk.text_size];decide);rw[HKb.out] at hset;have HSet:=Lh hset;obtain⟨c0,c1,c2,c3,c4,c5,c13⟩:=HC.out w5 HP5.out.bel;have ce:=HCe.out w5 HP5.out.bel;clear hset hb5 HPr;go_wp2_with fail;refine HSet.out.mono ?_;rintro e w6 ⟨rfl,hs6⟩;have HP6:=Lh (HP5.out.prog hs6);have hk6:=hs6.same.1;clear HSet;have hhas:=Rk.has HP6.out.d (id:=j) (n:=q) (by omega) (by omega) (by omega) (by omega);rw[HRb.out] at hhas;have HHas:=Lh hhas;obtain⟨c0,c1,c2,c3,c4,c5,c13⟩:=HC.out w6 HP6.out.bel;have ce:=HCe.out w6 HP6.out.bel;have HK6:=Lh (hk6.trans HKb.out);clear hhas hk6 hs6 HP5;rw[setE_or K j q _ (Bk.text_size s)];cases hbk:Kn.block K.B j q with
      |none=>
       have hno:(Kn.block K.B j q).isSome=false:=by rw[hbk];rfl
       have fin:boI w1 d bx kb rb (.int .u32 ((j:Int)+1)) w6:=by
        have:=HP6.out;rw[setBlock_none K j q _ (Bk.text_size s) hno] at this;exact⟨j+1,hjn,by simp,_,_,_,this,HK6.out,HRb.out,HFr.out⟩
       have Fin:=Lh fin;rw[hbk] at HHas;clear fin hno hbk HP6 HFr;go_wp2_with fail;refine HHas.out.mono ?_;rintro e w7 ⟨rfl,rfl⟩;go_wp2;exact⟨Fin.out,by simp[intOf];omega⟩
      |some t=>
       have Hbk:=Lh hbk;rw[hbk] at HHas;clear hbk;go_wp2_with fail;refine HHas.out.mono ?_;rintro e w7 ⟨rfl,rfl⟩;go_wp2_with fail;refine(Bk.block _ s HSz.out).mono ?_;rintro e w7 ⟨rfl,hb7⟩;have HP7:=Lh (HP6.out.below hb7);have hset:=Rk.setBlock HP7.out.d Hbk.out (Bk.text s) (Bk.text_size s);rw[HRb.out] at hset;have HSet:=Lh hset;clear hset hb7 HP6 c0 c1 c2 c3 c4 c5 c13 ce;go_wp2_with fail;refine HSet.out.mono ?_;rintro e w8 ⟨rfl,b',hs8⟩;have fin:boI w1 d bx kb rb (.int .u32 ((j:Int)+1)) w8:=⟨j+1,hjn,by simp,_,_,_,HP7.out.doc hs8,HK6.out,hs8.same.1.trans HRb.out,HFr.out.set _ _ _⟩;have Fin:=Lh fin;clear fin hs8 HSet HP7 HFr Hbk;go_wp2;exact⟨Fin.out,by simp[intOf];omega⟩
     ·obtain rfl:j=d.h.l.length:=by omega
      have jj:¬(d.h.l.length:Int)<d.h.l.length:=by omega
      have iw:IntKind.i64.wrap ((i:Int)+1)=(i:Int)+1:=by have:=HBl.out;rw[IntKind.wrap_i64];omega
      have fin:boO w1 d bx kb rb (.int .i64 ((i:Int)+1)) wr:=⟨i+1,hin,by simp,a,b,K,HPr.out,HKb.out,HRb.out,HFr.out⟩;have Fin:=Lh fin;clear fin HPr HFr;go_wp2;exact⟨Fin.out,by simp[intOf];omega⟩
   ·obtain rfl:i=d.bl.length:=by omega
    have ii:¬(d.bl.length:Int)<d.bl.length:=by omega
    have hl16:d.h.l.length≤16∧d.h.p≤4096:=by
     unfold Ca.hardOk at hok;simp only[Bool.and_eq_true,decide_eq_true_eq] at hok;exact⟨hok.1.2,hok.1.1⟩
    have HL:=Lh hl16;clear hl16;have HKE:Hid (K.hp=d.h.p∧K.hx=d.h.l):=Lh ⟨HFr.out.hp,HFr.out.hx⟩;have HS:Hid (∀W a' b' L L',KPair w1 W a' L b' L'→b'.kb=rb→b'.c.rb=b.c.rb→W.cell? ⟨bx,2,none⟩=some (.int .u32 d.m.m.pages)∧W.cell? ⟨bx,3,none⟩=some (.slice d.m.ea d.m.m.ext.length d.m.ecap)∧W.cell? ⟨bx,4,none⟩=some (.slice d.m.pa d.m.m.ports.length d.m.pcap)∧W.cell? ⟨bx,5,none⟩=some (.bool d.m.m.con)∧W.cell? ⟨rb,0,none⟩=some (.pointer (some ⟨b.c.rb,0,none⟩))∧True):=Lh fun W a' b' L L' k1 k2 k3=>by
     obtain⟨_,_,e2,e3,e4,e5,_⟩:=HC.out W k1.bel;have:=k1.d.cells.1;rw[k2,k3] at this;exact⟨e2,e3,e4,e5,this,trivial⟩
    obtain⟨crb,hcrb⟩:∃x,b.c.rb=x:=⟨_,rfl⟩;rw[hcrb] at HS;have HCr:=Lh hcrb;clear hcrb;go_wp2_with fail;clear c0 c1 c2 c3 c4 c5 c13;refine B (fun W=>W.cell? ⟨bx,2,none⟩=some (.int .u32 d.m.m.pages)∧W.cell? ⟨bx,3,none⟩=some (.slice d.m.ea d.m.m.ext.length d.m.ecap)∧W.cell? ⟨bx,4,none⟩=some (.slice d.m.pa d.m.m.ports.length d.m.pcap)∧W.cell? ⟨bx,5,none⟩=some (.bool d.m.m.con)∧W.cell? ⟨rb,0,none⟩=some (.pointer (some ⟨crb,0,none⟩))∧True) (HS.out _ _ _ _ _ (HPr.out.below (Below.refl _ _).drew) HRb.out HCr.out) ?_;intro wd hwd hS;have HPd:Hid (KPair w1 wd a K b K):=Lh (by subst hwd;exact HPr.out.below (Below.refl _ _).drew);clear hwd HPr;refine T 0 hS ?_;refine T 2 hS ?_;refine T 3 hS ?_;refine T 6 hS ?_;refine T 7 hS ?_;refine T 8 hS ?_;refine T 9 hS ?_;refine T 10 hS ?_;refine T 11 hS ?_;refine U 1 fun K' hK=> ?_
    have hcaps:=Kl.caps HPd.out.p;rw[HKb.out] at hcaps;have HCp:=Lh hcaps;clear hcaps;go_simp;go_at_call 25;refine HCp.out.mono ?_;rintro e w5 ⟨rfl,rfl⟩;refine V hK hS ?_;clear hK K' hS HCp;have HMi:=Lh (HM.out.below HPd.out.bel);have HCy:Hid (Calls Tryz.prog 72 #[.agg #[.int .u32 d.m.m.pages,.slice d.m.ea d.m.m.ext.length d.m.ecap,.slice d.m.pa d.m.m.ports.length d.m.pcap,.bool d.m.m.con]] wd (R11.CopyPost wd d.m.m)):=Lh (by
     have:=HMl.out;exact R11.copy HMi.out.i (by omega) (by omega))
    refine U 4 fun K' hK=> ?_
    go_simp;go_at_call 72;refine HCy.out.mono ?_;rintro e w6 ⟨ev6,pv6,rfl,hm6,hf6,hb6⟩;have HP6:=Lh (HPd.out.below hb6);have HM6:=Lh hm6;have hS6:=HS.out _ _ _ _ _ HP6.out HRb.out HCr.out;clear hm6 hf6 hb6 HCy HPd;refine V hK hS6 ?_;clear hK K' hS6;have HGr:=Lh (Kl.grant HP6.out.p (by rw[HKE.out.1];exact HL.out.2) (by rw[HKE.out.2];exact HL.out.1) (n:=1) (pg:=0) (Int.le_refl 0) HM6.out HM.out.ok)
    by_cases hg:Ca.grantE K.hp K.hx K.g 1 d.m.m 0=0
    ·have hask:asked d K= {K with g:=Gp.upd K.g 1 (some ⟨d.m.m,0,0⟩)}:=if_pos hg;refine U 5 fun K' hK=> ?_
     go_simp;go_at_call 67;refine HGr.out.mono ?_;rintro e w7 (⟨g1,_⟩|⟨_,rfl,a7,hs7⟩)
     ·exact absurd hg g1
     have HP7:=Lh (HP6.out.prog hs7);have HK7:=Lh (hs7.same.1.trans HKb.out);have hS7:=HS.out _ _ _ _ _ HP7.out HRb.out HCr.out;clear hs7 HP6 HGr;refine V hK hS7 ?_;clear hK K' hS7;have hgr:=Rk.grant HP7.out.d (by rw[HKE.out.2];exact HL.out.1) (n:=1) (pg:=0) (Int.le_refl 0) (HM.out.below HP7.out.bel).i HM.out.ok;rw[HCr.out] at hgr;have HGr:=Lh hgr;clear hgr;refine U 12 fun K' hK=> ?_
     go_simp;go_at_call 73;refine HGr.out.mono ?_;rintro e w8 (⟨g1,_⟩|⟨_,rfl,b8,hs8⟩)
     ·exact absurd hg g1
     have hP8:=HP7.out.doc hs8;have HRb8:=Lh (hs8.same.1.trans HRb.out);have hS8:=HS.out _ _ _ _ _ hP8 HRb8.out (hs8.same.2.1.trans HCr.out);rw[←hask] at hP8;have he:=HFin1.out w8 a7 b8 K hok hP8 HFr.out;rw[HK7.out,HRb8.out] at he;have HE:=Lh he;clear hP8 he hs8 HGr HP7 hask;refine V hK hS8 ?_;clear hK K';refine T 13 hS8 ?_;clear hS8;refine wpAnyH_done (by kernel_rfl) ?_ _;go_wp2
     first|exact HE.out|(go_ret3;exact HE.out)
    ·have hask:asked d K=K:=if_neg hg;obtain⟨y,hy⟩:∃y,Ca.grantE K.hp K.hx K.g 1 d.m.m 0=y:=⟨_,rfl⟩;refine U 5 fun K' hK=> ?_
     go_simp;go_at_call 67;refine HGr.out.mono ?_;rintro e w7 (⟨_,rfl,hb7⟩|⟨g1,_⟩)
     rotate_left
     ·exact absurd g1 hg
     have HP7:=Lh (HP6.out.below hb7);have hS7:=HS.out _ _ _ _ _ HP7.out HRb.out HCr.out;rw[hy];clear hb7 HP6 HGr;refine V hK hS7 ?_;clear hK K' hS7;have hgr:=Rk.grant HP7.out.d (by rw[HKE.out.2];exact HL.out.1) (n:=1) (pg:=0) (Int.le_refl 0) (HM.out.below HP7.out.bel).i HM.out.ok;rw[HCr.out] at hgr;have HGr:=Lh hgr;clear hgr;refine U 12 fun K' hK=> ?_
     go_simp;go_at_call 73;refine HGr.out.mono ?_;rintro e w8 (⟨_,rfl,hb8⟩|⟨g1,_⟩)
     rotate_left
     ·exact absurd g1 hg
     have hP8:=HP7.out.below hb8;have hS8:=HS.out _ _ _ _ _ hP8 HRb.out HCr.out;rw[←hask] at hP8;have he:=HFin1.out w8 a b K hok hP8 HFr.out;rw[HKb.out,HRb.out] at he;have HE:=Lh he;rw[hy];clear hP8 he hb8 HGr HP7 hask hg hy;refine V hK hS8 ?_;clear hK K';refine T 13 hS8 ?_;clear hS8;refine wpAnyH_done (by kernel_rfl) ?_ _;go_wp2
     first|exact HE.out|(go_ret3;exact HE.out)
end L22
theorem arrive_q{S:Ni.NicS}(h:∀x s,s∈S.q x→s.size≤128)(t:ByteArray):∀x s,s∈(Ni.arriveS S t).q x→s.size≤128:=fun x s hs=>by
 unfold Ni.arriveS at hs
 split at hs
 ·rename_i hm
  split at hs
  ·have hs:s∈Ni.updQ S.q (Ni.portV t 22) (S.q (Ni.portV t 22)++[t]) x:=hs;unfold Ni.updQ at hs
   split at hs
   ·rcases List.mem_append.1 hs with g|g
    ·exact h _ s g
    ·simp at g;subst g;unfold Ni.mayB at hm;simp at hm;exact hm.2
   ·exact h x s hs
  ·exact h x s hs
 ·exact h x s hs
theorem arrive_g{S:Ni.NicS}(h:0≤S.gone)(t:ByteArray):0≤(Ni.arriveS S t).gone:=by
 unfold Ni.arriveS
 split
 ·split
  ·exact h
  ·show 0≤S.gone+1
   omega
 ·exact h
theorem arrive_g1{S:Ni.NicS}(t:ByteArray):(Ni.arriveS S t).gone≤S.gone+1:=by
 unfold Ni.arriveS
 split
 ·split
  ·show S.gone≤S.gone+1;omega
  ·show S.gone+1≤S.gone+1;omega
 ·omega
theorem arrive_sent{S:Ni.NicS}(t:ByteArray):(Ni.arriveS S t).sent=S.sent:=by
 unfold Ni.arriveS
 split
 ·split<;>rfl
 ·rfl
theorem Kl.arrive{w:World}{a:KAt}{K:Kn}(h:Knl w a K)(t:ByteArray)(ht:t.size<140737488355328)(g1:K.N.gone<9223372036854775807):
  Calls Tryz.prog 13 #[.pointer (some ⟨a.nb,0,none⟩),.string t] w fun e w'=>e=.returned (.tuple #[.int .u16 (Ni.arriveP t),.bool (Ni.arriveB K.N t),.int .i64 (Ni.arriveE t)])∧∃a',KStep w w' a K a' {K with N:=Ni.arriveS K.N t}:=
 (Ni.arrive h.nic t ht h.ok.g0 g1).mono fun e w' ⟨k1,k2,k3⟩=>⟨k1,_,KStep.setNic h k2 k3 (arrive_q h.ok.q t) (arrive_g h.ok.g0 t)⟩
namespace L22
section
variable {w0 w:World} {a:KAt} {K:Kn} {e:EAt} {E:En} {b:RkAt} {f:RAt} {R:List Rp} {F:En}
def besK(K:Kn)(dn:Int)(t:ByteArray):Kn:=if dn=1 then {K with N:=Ni.arriveS K.N t} else {K with now:=(K.now+1) % 4294967296}
end
end L22
namespace L22
open In
theorem exit_num(E:En)(c:Int):(E.exit c).num=E.num:=by unfold En.exit;split<;>rfl
theorem call_num(K:Kn)(E:En)(b:Nat)(num:Int):(Co.call K E b num).E.num=E.num:=by
 unfold Co.call
 repeat' split
 all_goals try rfl
 ·unfold Co.page;repeat' split
  all_goals first|rfl|(unfold En.page;repeat' split)<;>rfl
 ·unfold Co.drop;repeat' split
  all_goals first|rfl|(unfold En.drop;repeat' split)<;>rfl
 ·unfold Co.read
  split
  ·rfl
  ·simp only;split<;>rfl
 ·unfold Co.write
  split
  ·rfl
  ·split<;>rfl
 ·unfold Co.send;repeat' split
  all_goals rfl
 ·unfold Co.recv;repeat' split
  all_goals rfl
 ·unfold Co.put;repeat' split
  all_goals first|rfl|(unfold En.put;repeat' split)<;>rfl
theorem doE_num(K:Kn)(E:En)(b:Nat)(num:Int):(Co.doE K E b num).num=E.num:=by
 unfold Co.doE
 split
 ·exact exit_num E _
 ·exact call_num K E b num
theorem set_rest(K:Kn)(id n:Int)(s:ByteArray):(K.setBlock id n s).hp=K.hp∧(K.setBlock id n s).g=K.g∧(K.setBlock id n s).N=K.N:=by
 unfold Kn.setBlock
 split<;>exact⟨rfl,rfl,rfl⟩
theorem send_len(S:Ni.NicS)(f:ByteArray):(Ni.sendS S f).sent.length≤S.sent.length+1∧(Ni.sendS S f).gone=S.gone:=by
 unfold Ni.sendS
 split
 ·exact⟨by simp,rfl⟩
 ·exact⟨Nat.le_succ _,rfl⟩
theorem pop_len(S:Ni.NicS)(p:Int):(Ni.popS S p).sent.length≤S.sent.length+1∧(Ni.popS S p).gone=S.gone:=by
 unfold Ni.popS
 repeat' split
 all_goals exact⟨Nat.le_succ _,rfl⟩
theorem call_K(K:Kn)(E:En)(b:Nat)(num:Int):(Co.call K E b num).K.hp=K.hp∧(Co.call K E b num).K.N.sent.length≤K.N.sent.length+1∧(Co.call K E b num).K.N.gone=K.N.gone∧∀k,Wi.gm ((Co.call K E b num).K.g k)=Wi.gm (K.g k):=by
 unfold Co.call
 repeat' split
 all_goals try exact⟨rfl,Nat.le_succ _,rfl,fun _=>rfl⟩
 ·unfold Co.page;repeat' split
  all_goals first|exact⟨rfl,Nat.le_succ _,rfl,fun _=>rfl⟩|exact⟨rfl,Nat.le_succ _,rfl,fun k=>Wi.gm_upd (Wi.gm_take _) k⟩
 ·unfold Co.drop;repeat' split
  all_goals first|exact⟨rfl,Nat.le_succ _,rfl,fun _=>rfl⟩|exact⟨rfl,Nat.le_succ _,rfl,fun k=>Wi.gm_upd (Wi.gm_give _) k⟩
 ·unfold Co.read
  split
  ·exact⟨rfl,Nat.le_succ _,rfl,fun _=>rfl⟩
  ·simp only;split<;>exact⟨rfl,Nat.le_succ _,rfl,fun _=>rfl⟩
 ·unfold Co.write
  split
  ·exact⟨rfl,Nat.le_succ _,rfl,fun _=>rfl⟩
  ·split
   ·exact⟨rfl,Nat.le_succ _,rfl,fun _=>rfl⟩
   ·exact⟨(set_rest _ _ _ _).1,by show(Kn.setBlock _ _ _ _).N.sent.length≤_;rw[(set_rest _ _ _ _).2.2];exact Nat.le_succ _,congrArg Ni.NicS.gone (set_rest _ _ _ _).2.2,fun k=>congrArg (fun g=>Wi.gm (g k)) (set_rest _ _ _ _).2.1⟩
 ·unfold Co.send;repeat' split
  all_goals first|exact⟨rfl,Nat.le_succ _,rfl,fun _=>rfl⟩|exact⟨rfl,(send_len _ _).1,(send_len _ _).2,fun _=>rfl⟩
 ·unfold Co.recv;repeat' split
  all_goals first|exact⟨rfl,Nat.le_succ _,rfl,fun _=>rfl⟩|exact⟨rfl,(pop_len _ _).1,(pop_len _ _).2,fun _=>rfl⟩
 ·unfold Co.put;repeat' split
  all_goals exact⟨rfl,Nat.le_succ _,rfl,fun _=>rfl⟩
structure Shp(K:Kn)(i:Nat):Prop where
 hp:K.hp≤4096
 sent:K.N.sent.length≤i
 gone:K.N.gone≤i
 fit:∀id n:Int,0≤id→0≤n→Gp.hasBlock (K.g 1) id n=true→(Kn.block K.B id n).isSome=true
theorem Shp.mono{K:Kn}{i:Nat}(h:Shp K i):Shp K (i+1):=⟨h.hp,Nat.le_succ_of_le h.sent,by have:=h.gone;omega,h.fit⟩
theorem Shp.bes{K:Kn}{i:Nat}(h:Shp K i)(dn:Int)(t:ByteArray):Shp (besK K dn t) (i+1):=by
 unfold besK
 split
 ·exact⟨h.hp,by show(Ni.arriveS K.N t).sent.length≤_;rw[arrive_sent];exact Nat.le_succ_of_le h.sent,by have:=h.gone;have:=arrive_g1 (S:=K.N) t;show(Ni.arriveS K.N t).gone≤_;omega,h.fit⟩
 ·exact⟨h.mono.hp,h.mono.sent,h.mono.gone,h.mono.fit⟩
theorem Shp.doK{K:Kn}{E:En}{i:Nat}(h:Shp K i)(b:Nat)(num:Int):Shp (Co.doK K E b num) (i+1):=by
 obtain⟨e1,e2,e3,e4⟩:(Co.doK K E b num).hp=K.hp∧(Co.doK K E b num).N.sent.length≤K.N.sent.length+1∧(Co.doK K E b num).N.gone=K.N.gone∧∀k,Wi.gm ((Co.doK K E b num).g k)=Wi.gm (K.g k):=by
  unfold Co.doK
  split
  ·exact⟨rfl,Nat.le_succ _,rfl,fun _=>rfl⟩
  ·exact call_K K E b num
 refine⟨by rw[e1];exact h.hp,by have:=h.sent;omega,by rw[e3];have:=h.gone;omega,fun id n i0 n0 hb=> ?_⟩;rw[Wi.doK_some];exact h.fit id n i0 n0 (by rw[←Wi.block_gm (e4 1)];exact hb)
theorem firstE_zero{a b c d:Int}(h:firstE [a,b,c,d]=0):a=0∧b=0:=by
 unfold firstE at h
 by_cases ha:a=0
 ·subst ha
  by_cases hb:b=0
  ·exact⟨rfl,hb⟩
  ·simp[hb] at h
 ·simp[ha] at h
theorem fit_of{hp:Int}{hx:List Int}{m:Mn}(h:Ca.grantE hp hx (fun _=>none) 1 m 0=0)(hm:m.ok){id n:Int}(i0:0≤id)(n0:0≤n)(hb:Gp.hasBlock (some ⟨m,0,0⟩) id n=true):(Kn.block (Kn.new hp hx).B id n).isSome=true:=by
 unfold Ca.grantE at h
 split at h
 ·omega
 ·split at h
  ·rename_i g;simp at g
  ·unfold Ca.grE at h;obtain⟨h1,h2⟩:=firstE_zero h;unfold Gp.hasBlock at hb;simp only at hb;cases hbl:Gp.blocksOf m.ext id with
   |none=>rw[hbl] at hb;cases hb
   |some k=>
    rw[hbl] at hb;have hb:n<k:=of_decide_eq_true hb;unfold Gp.blocksOf at hbl;obtain⟨x,hx1,hx2⟩:=Option.map_eq_some_iff.1 hbl;have hmem:=List.mem_of_find?_eq_some hx1;have hid:x.1=id:=by have:=List.find?_some hx1;simpa using this
    have hno:Ca.extNone m.ext hx.length=false:=by
     unfold Ca.noneE at h1;cases e:Ca.extNone m.ext hx.length with
     |false=>rfl
     |true=>rw[e] at h1;simp at h1
    have hlo:Ca.extLong m.ext hx=false:=by
     unfold Ca.longE at h2;cases e:Ca.extLong m.ext hx with
     |false=>rfl
     |true=>rw[e] at h2;simp at h2
    unfold Ca.extNone at hno;unfold Ca.extLong at hlo;have g1:=List.any_eq_false.1 hno x hmem;have g2:=List.any_eq_false.1 hlo x hmem;simp only[decide_eq_true_eq] at g1;have hlt:x.1<hx.length:=by omega
    simp only[Bool.and_eq_true,decide_eq_true_eq,not_and,hlt,true_implies,forall_const] at g2;obtain⟨i,rfl⟩:=Int.eq_ofNat_of_zero_le i0;obtain⟨j,rfl⟩:=Int.eq_ofNat_of_zero_le n0;have hil:i<hx.length:=by omega
    have hxe:hx.getD x.1.toNat 0=hx[i]:=by
     rw[hid,Int.toNat_natCast,List.getD_eq_getElem?_getD,Zg hil];rfl
    rw[hxe] at g2;have hrow:(Kn.new hp hx).B[i]? =some (List.replicate (hx[i]).toNat z64):=by
     show(hx.map fun n=>List.replicate n.toNat z64)[i]? =_
     rw[List.getElem?_map,Zg hil];rfl
    have hj:j<(hx[i]).toNat:=by omega
    rw[Kn.block_of hrow (List.getElem?_replicate_of_lt hj)];rfl
theorem Shp.asked{d:WdI}{K:Kn}(h:Fresh d K)(hm:d.m.m.ok)(hok:Ca.hardOk d.h.p d.h.l=true):Shp (L22.asked d K) 0:=by
 have hp:d.h.p≤4096:=by
  unfold Ca.hardOk at hok;simp only[Bool.and_eq_true,decide_eq_true_eq] at hok;exact hok.1.1
 unfold L22.asked
 split
 ·rename_i g
  rw[h.hp,h.hx,h.g] at g;refine⟨by show K.hp≤_;rw[h.hp];exact hp,by show K.N.sent.length≤_;rw[h.N];exact Nat.le_refl _,by show K.N.gone≤_;rw[h.N];exact Int.le_refl _,fun id n i0 n0 hb=> ?_⟩
  show(Kn.block K.B id n).isSome=true
  rw[h.B];refine fit_of g hm i0 n0 ?_;have hb:Gp.hasBlock (Gp.upd K.g 1 (some ⟨d.m.m,0,0⟩) 1) id n=true:=hb;rw[Gp.upd_at] at hb;exact hb
 ·refine⟨by rw[h.hp];exact hp,by rw[h.N];exact Nat.le_refl _,by rw[h.N];exact Int.le_refl _,fun id n i0 n0 hb=> ?_⟩;rw[h.g] at hb;cases hb
end L22
namespace Wi
theorem pgs_cores{A A1 A':List Pg}{own:List Int}(hc:cores A1=cores A)(h:Pgs A A' own):Pgs A1 A' own:=fun p hp=>by
 obtain⟨i,hi⟩:=List.getElem?_of_mem hp;have h1:(cores A1)[i]? =some (p.addr,p.perm,p.bytes):=by unfold cores;rw[List.getElem?_map,hi];rfl
 rw[hc] at h1;unfold cores at h1;rw[List.getElem?_map] at h1;cases hq:A[i]? with
 |none=>rw[hq] at h1;cases h1
 |some q=>
  rw[hq] at h1;have h1:(q.addr,q.perm,q.bytes)=(p.addr,p.perm,p.bytes):=Option.some.inj h1;simp only[Prod.mk.injEq] at h1;obtain⟨e1,e2,e3⟩:=h1;have:=h q (List.mem_of_getElem? hq);rw[e1,e2,e3] at this;exact this
theorem fine_like{K K':Kn}{E E1 E':En}(hl:En.Like E1 E)(h:Fine K E K' E'):Fine K E1 K' E':=
 {
  num:=h.num.trans hl.num.symm
  g:=h.g
  b:=fun id n=>by rw[hl.num];exact h.b id n
  q:=fun p=>by rw[hl.num];exact h.q p
  pc:=h.pc.trans hl.pc.symm
  r:=fun i hi=>(h.r i hi).trans (hl.arg i).symm
  pg:=by rw[hl.own];exact pgs_cores hl.A h.pg
  cnt:=by
   have:E1.A.length=E.A.length:=by
    have:=congrArg List.length hl.A;unfold cores at this;rw[List.length_map,List.length_map] at this;exact this
   rw[this,hl.own];exact h.cnt
  own:=by rw[hl.num];exact h.own
  s:=by rw[hl.num];exact h.s
  t:=by rw[hl.num,hl.text];exact h.t
  hx:=h.hx}
def rows(B:List (List ByteArray)):List Nat:=B.map List.length
theorem set_rows(K:Kn)(id n:Int)(s:ByteArray):rows (K.setBlock id n s).B=rows K.B:=by
 unfold Kn.setBlock
 split
 ·show rows (Kn.setB K.B _ _ s)=_
  unfold Kn.setB rows;refine List.ext_getElem? fun j=> ?_
  rw[List.getElem?_map,List.getElem?_map,List.getElem?_modify];cases K.B[j]? with
  |none=>simp
  |some l=>
   simp only[Option.map_some,Option.map_eq_map]
   split<;>simp
 ·rfl
theorem doK_rows(K:Kn)(E:En)(b:Nat)(num:Int):rows (Co.doK K E b num).B=rows K.B:=by
 unfold Co.doK
 split
 ·rfl
 ·unfold Co.call
  repeat' split
  all_goals try rfl
  ·unfold Co.page;repeat' split
   all_goals rfl
  ·unfold Co.drop;repeat' split
   all_goals rfl
  ·unfold Co.read
   split
   ·rfl
   ·simp only;split<;>rfl
  ·unfold Co.write
   split
   ·rfl
   ·split
    ·rfl
    ·exact set_rows _ _ _ _
  ·unfold Co.send;repeat' split
   all_goals rfl
  ·unfold Co.recv;repeat' split
   all_goals rfl
  ·unfold Co.put;repeat' split
   all_goals rfl
def rowsOk(B:List (List ByteArray)):Prop:=(rows B).length≤16∧∀r,r∈rows B→r≤1024
theorem rows_le{B:List (List ByteArray)}(h:rowsOk B):B.length≤2000000∧∀(i:Nat) (l:List ByteArray),B[i]? =some l→l.length≤2000000:=by
 have h1:=h.1;unfold rows at h1;rw[List.length_map] at h1;refine⟨by omega,fun i l hi=> ?_⟩;have:=h.2 l.length (List.mem_map.2 ⟨l,List.mem_of_getElem? hi,rfl⟩);omega
theorem rows_of{B:List (List ByteArray)}(h:B.length≤16∧∀(i:Nat) (l:List ByteArray),B[i]? =some l→l.length≤1024):rowsOk B:=by
 refine⟨by unfold rows;rw[List.length_map];exact h.1,fun r hr=> ?_⟩;obtain⟨l,hl,rfl⟩:=List.mem_map.1 hr;obtain⟨i,hi⟩:=List.getElem?_of_mem hl;exact h.2 i l hi
structure Lp(d:In.WdI)(K:Kn)(E:En)(i:Nat):Prop where
 num:E.num=1
 shp:L22.Shp K i
 own:(E.own.length:Int)=took (K.g 1)
 g:∀n,Gp.gok (K.g n)
 man:∀G,K.g 1=some G→G.m=d.m.m
 row:rowsOk K.B
theorem Lp.inv{d:In.WdI}{K:Kn}{E:En}{i:Nat}(h:Lp d K E i){w:World}{e:EAt}(he:Env w e E):Inv K E:=
 ⟨by rw[h.num];exact h.own,Kp.Ok.of he.sp,he.ok,h.g⟩
theorem Lp.mono{d:In.WdI}{K:Kn}{E:En}{i:Nat}(h:Lp d K E i):Lp d K E (i+1):= {h with shp:=h.shp.mono}
theorem Lp.pages{d:In.WdI}{K:Kn}{E:En}{i:Nat}(h:Lp d K E i)(p0:0≤d.m.m.pages):(E.own.length:Int)≤d.m.m.pages:=by
 rw[h.own];cases hg:K.g 1 with
 |none=>exact p0
 |some G=>
  have h1:=(h.g 1 G hg).t1;rw[h.man G hg] at h1;exact h1
theorem Lp.leftE{d:In.WdI}{K:Kn}{E:En}{i:Nat}(h:Lp d K E i):(E.own.length:Int)+Gp.left (K.g 1)=match K.g 1 with|none=>0|some _=>d.m.m.pages:=by
 rw[h.own];cases hg:K.g 1 with
 |none=>rfl
 |some G=>
  have:=h.man G hg
  show G.took+(G.m.pages - G.took)=d.m.m.pages
  rw[this];omega
theorem Lp.arrive{d:In.WdI}{K:Kn}{E:En}{i:Nat}(h:Lp d K E i)(t:ByteArray):Lp d {K with N:=Ni.arriveS K.N t} E (i+1):=
 {h with shp:=(h.shp.bes 1 t:L22.Shp (L22.besK K 1 t) (i+1))}
theorem Lp.regs{d:In.WdI}{K:Kn}{E:En}{i:Nat}(h:Lp d K E i)(r:List Int):Lp d K {E with r:=r} i:= {h with num:=h.num,own:=h.own}
theorem Lp.doK{d:In.WdI}{K:Kn}{E:En}{i:Nat}(h:Lp d K E i)(hi:Inv K E)(hk:E.kind=2)(b:Nat)(num:Int)(ha:∀i,0≤E.arg i)(hg:∀n,Gp.gok ((Co.doK K E b num).g n)):Lp d (Co.doK K E b num) (Co.doE K E b num) (i+1):=by
 have F:=fine hi hk b num ha;have hn:=L22.doE_num K E b num;refine⟨hn.trans h.num,h.shp.doK b num, ?_,hg,fun G hG=> ?_,(by unfold rowsOk;rw[doK_rows];exact h.row)⟩
 ·have:=F.own;rw[h.num] at this;exact this
 ·have h1:=F.g 1;rw[hG] at h1;cases hq:K.g 1 with
  |none=>rw[hq] at h1;cases h1
  |some G0=>
   rw[hq] at h1;have h1:some G.m=some G0.m:=h1;rw[Option.some.inj h1];exact h.man G0 hq
theorem Lp.left_same{d:In.WdI}{K K':Kn}{E E':En}{i j:Nat}(h:Lp d K E i)(h':Lp d K' E' j)(hg:gm (K'.g 1)=gm (K.g 1)):(E'.own.length:Int)+Gp.left (K'.g 1)=E.own.length+Gp.left (K.g 1):=by
 rw[h.leftE,h'.leftE];cases hq:K.g 1 with
 |none=>
  rw[hq] at hg;cases hq':K'.g 1 with
  |none=>rfl
  |some G=>rw[hq'] at hg;cases hg
 |some G=>
  rw[hq] at hg;cases hq':K'.g 1 with
  |none=>rw[hq'] at hg;cases hg
  |some G'=>rfl
theorem send_small{S:Ni.NicS}{f t:ByteArray}(h:(Ni.sendS S f).sent=S.sent++[t]):t.size≤128:=by
 unfold Ni.sendS at h
 split at h
 ·rename_i hm
  have h:S.sent++[f]=S.sent++[t]:=h;have:=List.append_cancel_left h;simp only[List.cons.injEq,and_true] at this;subst this;unfold Ni.mayB at hm;simp at hm;exact hm.2
 ·have:=congrArg List.length h;simp at this
theorem pop_sent(S:Ni.NicS)(p:Int):(Ni.popS S p).sent=S.sent:=by
 unfold Ni.popS
 split<;>rfl
theorem no_app{S:List ByteArray}{t:ByteArray}{P:Prop}(h:S=S++[t]):P:=by
 have:=congrArg List.length h;simp at this
theorem doK_small{K:Kn}{E:En}{b:Nat}{num:Int}{t:ByteArray}(h:(Co.doK K E b num).N.sent=K.N.sent++[t]):t.size≤128:=by
 revert h
 unfold Co.doK
 split
 ·exact fun h=>no_app h
 ·unfold Co.call
  repeat' split
  all_goals try exact fun h=>no_app h
  ·unfold Co.page;repeat' split
   all_goals exact fun h=>no_app h
  ·unfold Co.drop;repeat' split
   all_goals exact fun h=>no_app h
  ·unfold Co.read
   split
   ·exact fun h=>no_app h
   ·simp only;split<;>exact fun h=>no_app h
  ·unfold Co.write
   split
   ·exact fun h=>no_app h
   ·split
    ·exact fun h=>no_app h
    ·intro h;have h:(Kn.setBlock _ _ _ _).N.sent=_:=h;rw[(L22.set_rest _ _ _ _).2.2] at h;exact no_app h
  ·unfold Co.send;repeat' split
   all_goals first|exact fun h=>no_app h|exact fun h=>send_small h
  ·unfold Co.recv;repeat' split
   all_goals first|exact fun h=>no_app h|(intro h;have h:(Ni.popS _ _).sent=_:=h;rw[pop_sent] at h;exact no_app h)
  ·unfold Co.put;repeat' split
   all_goals exact fun h=>no_app h
end Wi
namespace Wi
theorem bytes_small{E:En}{x n:Int}{s:ByteArray}(h:Kn.bytes E x n=some s):s.size≤1048576:=by
 unfold Kn.bytes at h
 split at h
 ·cases h;unfold Sp.getS
  split
  ·exact Nat.zero_le _
  ·rename_i q
   split
   ·rw[strOfNums_size,Sp.getL_length];omega
   ·exact Nat.zero_le _
 ·cases h
theorem small0:(ByteArray.empty:ByteArray).size≤1048576:=Nat.zero_le _
theorem call_small(K:Kn)(E:En)(b:Nat)(num:Int):(Co.call K E b num).s.size≤1048576:=by
 unfold Co.call
 repeat' split
 all_goals try exact small0
 ·unfold Co.page;repeat' split
  all_goals exact small0
 ·unfold Co.drop;repeat' split
  all_goals exact small0
 ·unfold Co.read
  split
  ·exact small0
  ·simp only;split<;>exact small0
 ·unfold Co.write
  split
  ·exact small0
  ·split<;>exact small0
 ·unfold Co.send
  split
  ·exact small0
  ·split
   ·exact small0
   ·split
    ·exact small0
    ·rename_i s hs
     split
     ·exact small0
     ·exact bytes_small hs
 ·unfold Co.recv;repeat' split
  all_goals exact small0
 ·unfold Co.put
  split
  ·exact small0
  ·split
   ·exact small0
   ·split
    ·exact small0
    ·rename_i s hs
     split
     ·exact small0
     ·exact bytes_small hs
theorem evt_shown{K:Kn}{E:En}(h:Inv K E)(hk:E.kind=2)(hn:E.num=1)(b:Nat)(num:Int)(ha:∀i,0≤E.arg i){p0 p1 p3:Int}{p2:ByteArray}(he:Kl.evt K E b num=⟨p0,p1,p2,p3,true⟩):
  p1=1∧p2.size<140737488355328∧((p0=1∧Gp.con ((Co.doK K E b num).g 1)=true∧p2.size≠0)∨(p0=2∧Ni.portB p2=true∧Gp.hasPort ((Co.doK K E b num).g 1) (Ni.portV p2 20)=true)∨(p0=3∧(Co.doE K E b num).kind=3∧(Co.doE K E b num).code=p3∧(Co.doE K E b num).why=0)):=by
 have F:=fine h hk b num ha;unfold Kl.evt at he
 by_cases e:num=1
 ·rw[if_pos e] at he;simp only[Evt.mk.injEq] at he;obtain⟨rfl,rfl,rfl,rfl,_⟩:=he;refine⟨hn,by decide,.inr (.inr ⟨rfl, ?_⟩)⟩;have e9:Co.doE K E b num= {E with kind:=3,code:=E.arg 1,why:=0}:=by
   unfold Co.doE En.exit;rw[if_pos e,if_neg (by omega)]
  rw[e9];exact⟨rfl,rfl,rfl⟩
 ·rw[if_neg e] at he;unfold evOf at he;have hs:=call_small K E b num;have hnum:=L22.call_num K E b num;rcases ev_kinds (K:=K) (E:=E) b num with g|g|g
  ·rw[if_pos g] at he;simp[Evt.none] at he
  ·have hp:=seen_put (K:=K) (E:=E) b num g;rw[if_neg (by omega)] at he;simp only[Evt.mk.injEq] at he;obtain⟨rfl,rfl,rfl,rfl,_⟩:=he;refine⟨hnum.trans hn,by omega,.inl ⟨g, ?_,hp.2⟩⟩;rw[con_gm (F.g 1),←hn];exact hp.1
  ·have hp:=seen_send (K:=K) (E:=E) b num g;rw[if_neg (by omega)] at he;simp only[Evt.mk.injEq] at he;obtain⟨rfl,rfl,rfl,rfl,_⟩:=he;refine⟨hnum.trans hn,by omega,.inr (.inl ⟨g,hp.1, ?_⟩)⟩;rw[port_gm (F.g 1),←hn];exact hp.2
theorem rg_put0(r:List Int)(d:Nat)(h:d≠0):Cp.rg (Cp.putG r d 0) d=0:=by
 unfold Cp.rg Cp.putG;rw[if_neg (by omega),Int.toNat_natCast,List.getD]
 by_cases q:d<r.length
 ·rw[List.getElem?_set_self q];rfl
 ·rw[List.getElem?_eq_none (by rw[List.length_set];omega)];rfl
theorem doE_refused{K:Kn}{E:En}(b:Nat)(num:Int)(h1:num≠1)(h2:(Co.doE K E b num).arg 2≠0):
  Co.doK K E b num=K∧(Kl.evt K E b num).seen=false∧(Co.doE K E b num).arg 1=0∧∃r,Co.doE K E b num= {E with r:=r}:=by
 have e1:Co.doE K E b num=((Co.call K E b num).E).answer (Co.call K E b num).v (Co.call K E b num).y:=by unfold Co.doE;rw[if_neg h1]
 have hy:(Co.call K E b num).y≠0:=by
  intro q;rw[e1,q] at h2;refine h2 ?_
  show(if(0:Int)≤2∧(2:Int)<16 then Cp.rg (Cp.putG (Cp.putG (Co.call K E b num).E.r 1 (Co.call K E b num).v) 2 0) 2 else 0)=0
  rw[if_pos (by decide)];exact rg_put0 _ 2 (by decide)
 have hr:=refused (K:=K) (E:=E) b num hy;have e2:Co.doE K E b num=E.answer 0 (Co.call K E b num).y:=by rw[e1,hr];rfl
 refine⟨?_, ?_, ?_, ?_⟩
 ·unfold Co.doK;rw[if_neg h1,hr];rfl
 ·unfold Kl.evt;rw[if_neg h1,hr];rfl
 ·rw[e2]
  show(if(0:Int)≤1∧(1:Int)<16 then Cp.rg (Cp.putG (Cp.putG E.r 1 0) 2 (Co.call K E b num).y) 1 else 0)=0
  rw[if_pos (by decide)];exact(Cp.rg_putG 2 _ 1 (by decide)).trans (rg_put0 _ 1 (by decide))
 ·exact⟨_,e2⟩
end Wi
end Go.Proofs.YtjjdjpdmgaipeaaGreat
