/- Wi22E, AliG, Wi22F in one text. -/
import Derived.Test.YtjjdjpdmgaipeaaGreatCwWi22B
import Derived.Test.YtjjdjpdmgaipeaaGreatCwR22N
import Derived.Test.YtjjdjpdmgaipeaaGreatCwMade
import Derived.Test.YtjjdjpdmgaipeaaGreatCwGraG
import Derived.Test.YtjjdjpdmgaipeaaGreatCwQuad
import Derived.Laws.StructEq
import Derived.Test.YtjjdjpdmgaipeaaGreatCwZa
set_option linter.unusedVariables false
set_option linter.unusedSimpArgs false
set_option maxRecDepth 100000
set_option maxHeartbeats 16000000
open Go.Proofs.Tryz
namespace Go.Proofs.YtjjdjpdmgaipeaaGreat
open Go.RowKit
namespace L22
open In
def wiRel(w1:World)(vi:Value)(wr:World):Prop:=∃i:Nat,3≤i∧i≤16∧vi=.int .i64 i∧Below w1.heap.size w1 wr
theorem within{w:World}{a x:KAt}{K K':Kn}{e f:EAt}{E E':En}(hk:Knl w a K')(hx:Knl w x K)(he:Env w e E')(hf:Env w f E){d:WdI}(hd:d.pre w){la:Option Addr}{lcap:Nat}{l:List ClI}(hl:Cls w la l)(F:Wi.Fine K E K' E')(hn:E.num=1)(hl16:d.h.l.length≤16)
  (how:(E'.own.length:Int)≤d.m.m.pages) (hs1:K'.N.sent.length≤2000000) (hs2:K.N.sent.length≤2000000) (hsz:∀t,K'.N.sent=K.N.sent++[t]→t.size<140737488355328) (hlr:(E'.own.length:Int)+Gp.left (K'.g 1)=E.own.length+Gp.left (K.g 1)) (hA:Kp.Ok E.A) (hA':Kp.Ok E'.A):
  Calls Tryz.prog 20 #[.pointer (some ⟨a.kb,0,none⟩),.pointer (some ⟨x.kb,0,none⟩),.pointer (some ⟨e.eb,0,none⟩),.pointer (some ⟨f.eb,0,none⟩),.agg d.cells,.slice la l.length lcap] w fun r w'=>r=.returned (.bool true)∧Below w.heap.size w w':=by
 have hb:Below w.heap.size w (w.alloc (.cells d.cells 37)):=(Below.refl _ _).alloc (Nat.le_refl _) _;have hbx:WBox (w.alloc (.cells d.cells 37)) w.heap.size d:=⟨heap_alloc_new w _⟩;have HB:=Lh hb;have hk1:=hk.below hb;have hx1:=hx.below hb;have he1:=he.below hb;have hf1:=hf.below hb;have hd1:=Ca.words_below hd.h.w hb;have hl1:=hl.below hb;obtain⟨w1,hw1⟩:∃w1,w.alloc (.cells d.cells 37)=w1:=⟨_,rfl⟩;obtain⟨bx,hbxe⟩:∃bx,w.heap.size=bx:=⟨_,rfl⟩;rw[hw1] at hbx HB hk1 hx1 he1 hf1 hd1 hl1;rw[hbxe] at hbx;have HK:=Lh fun V (hV:Below w1.heap.size w1 V)=>hk1.below hV
 have HX:=Lh fun V (hV:Below w1.heap.size w1 V)=>hx1.below hV
 have HE:=Lh fun V (hV:Below w1.heap.size w1 V)=>he1.below hV
 have HF:=Lh fun V (hV:Below w1.heap.size w1 V)=>hf1.below hV
 have HC:Hid (∀V,Below w1.heap.size w1 V→V.cell? ⟨bx,0,none⟩=some (.int .u32 d.h.p)∧V.cell? ⟨bx,1,none⟩=some (.slice d.h.a d.h.l.length d.h.cap)∧V.cell? ⟨bx,2,none⟩=some (.int .u32 d.m.m.pages)∧True):=Lh fun V hV=>by
  have h:=hbx.below hV;exact⟨h.cell 0 _ rfl,h.cell 1 _ rfl,h.cell 2 _ rfl,trivial⟩
 have HEnd:Hid (∀V,Below w1.heap.size w1 V→Below w.heap.size w V):=Lh fun V hV=>below_th HB.out hV
 have hgm:=F.g 1;have hFb:∀id n:Int,0≤id→0≤n→Kn.block K.B id n=Kn.block K'.B id n∨Gp.hasBlock (K'.g 1) id n=true:=fun id n _ _=>by
  rcases F.b id n with g|g
  ·exact .inl g.symm
  ·rw[hn] at g;exact .inr (by rw[Wi.block_gm hgm];exact g)
 have HBlk:=Lh (blocks (hp:=d.h.p) (cap:=d.h.cap) hx1 hk1 hd1 hd.h.bd hl16);have HW1:=Lh fun V (hV:Below w1.heap.size w1 V)=>waiting (lcap:=lcap) (hk1.below hV) (hl1.below hV)
 have HW2:=Lh fun V (hV:Below w1.heap.size w1 V)=>waiting (lcap:=lcap) (hx1.below hV) (hl1.below hV)
 have hwo:wtO (fun p=>(K'.N.q p).length) (fun p=>Gp.hasPort (K'.g 1) p) l l.length=wtO (fun p=>(K.N.q p).length) (fun p=>Gp.hasPort (K.g 1) p) l l.length:=by
  rw[show(fun p=>Gp.hasPort (K'.g 1) p)=fun p=>Gp.hasPort (K.g 1) p from funext fun p=>Wi.port_gm hgm p];exact wtO_same (fun p=>by have:=F.q p;rw[hn] at this;exact this) l l.length
 rw[hwo] at HW1;obtain⟨o1,ho1⟩:∃o,wtO (fun p=>(K.N.q p).length) (fun p=>Gp.hasPort (K.g 1) p) l l.length=o:=⟨_,rfl⟩;obtain⟨t1,ht1⟩:∃o,wtT (fun p=>(K'.N.q p).length) l l.length=o:=⟨_,rfl⟩;obtain⟨t2,ht2⟩:∃o,wtT (fun p=>(K.N.q p).length) l l.length=o:=⟨_,rfl⟩;rw[ho1,ht1] at HW1;rw[ho1,ht2] at HW2;have HFb:=Lh hFb;have HFF:=Lh F;have HGm:=Lh hgm;have HNn:=Lh hn;have HOw:=Lh how;have HSS:=Lh (And.intro hs1 hs2);have HSz:=Lh hsz;have HLr:=Lh hlr;have HAA:=Lh (And.intro hA hA');have HMp:=Lh hd.m.ok.p1;have HLe:=Lh (And.intro he1.ok.len hf1.ok.len);clear hb hk hx he hf hd hl hk1 hx1 he1 hf1 hd1 hl1 hwo ho1 ht1 ht2 hFb F hgm hn how hs1 hs2 hsz hlr hA hA' hl16;obtain⟨c0,c1,c2,_⟩:=HC.out w1 (Below.refl _ _);unfold WdI.cells HdI.v MnI.ev MnI.pv at hw1⊢;go_enter func20,ntmps20;go_wp2_with fail;try rw[hw1]
 try rw[hbxe]
 clear hw1 hbxe hbx;refine HBlk.out.mono ?_;rintro r w2 ⟨cc,oo,rfl,_,hoo,hb2⟩;obtain rfl:oo=0:=hoo HFb.out;have HB2:=Lh hb2;clear hoo hb2 HBlk HFb;obtain⟨c0,c1,c2,_⟩:=HC.out w2 HB2.out;go_wp2_with fail;refine(HW1.out _ HB2.out).mono ?_;rintro r w3 ⟨rfl,hb3⟩;have HB3:=Lh (below_th HB2.out hb3);clear hb3;go_wp2_with fail;refine(HW2.out _ HB3.out).mono ?_;rintro r w4 ⟨rfl,hb4⟩;have HB4:=Lh (below_th HB3.out hb4);clear hb4 HW1 HW2 HB2 HB3 c0 c1 c2;go_wp2_with fail;refine B (fun V=>V.cell? ⟨bx,0,none⟩=some (.int .u32 d.h.p)∧V.cell? ⟨bx,1,none⟩=some (.slice d.h.a d.h.l.length d.h.cap)∧V.cell? ⟨bx,2,none⟩=some (.int .u32 d.m.m.pages)∧True) (HC.out _ (HB4.out.drew)) ?_;intro wd hwd hS;have HBd:Hid (Below w1.heap.size w1 wd):=Lh (by subst hwd;exact HB4.out.drew);have hpc:=HFF.out.pc;have hmp:=HMp.out;have how:=HOw.out;have wow:IntKind.u32.wrap (E'.own.length:Int)=E'.own.length:=wrap32 (by omega) (by omega);have hgt:¬(d.m.m.pages<(E'.own.length:Int)):=by omega
 have hcnt:=HFF.out.cnt;clear hwd HB4;refine T 0 hS ?_;refine T 1 hS ?_;refine T 2 hS ?_;refine T 3 hS ?_;refine T 4 hS ?_;refine T 5 hS ?_;refine T 6 hS ?_;refine T 7 hS ?_;refine T 8 hS ?_;refine T 11 hS ?_;refine U 9 fun K0 hK=> ?_
 go_simp;go_at_call 77;refine(Ev.cpu (HE.out _ HBd.out)).mono ?_;rintro r wz ⟨rfl,rfl⟩;refine V hK hS ?_;clear hK K0;refine U 10 fun K0 hK=> ?_
 go_simp;go_at_call 93;refine(Cp.pc_ok (HE.out _ HBd.out).cp).mono ?_;rintro r wz ⟨rfl,rfl⟩;refine V hK hS ?_;clear hK K0;refine U 12 fun K0 hK=> ?_
 go_simp;go_at_call 77;refine(Ev.cpu (HF.out _ HBd.out)).mono ?_;rintro r wz ⟨rfl,rfl⟩;refine V hK hS ?_;clear hK K0;refine U 13 fun K0 hK=> ?_
 go_simp;go_at_call 93;refine(Cp.pc_ok (HF.out _ HBd.out).cp).mono ?_;rintro r wz ⟨rfl,rfl⟩;refine V hK hS ?_;clear hK K0;refine T 14 hS ?_;refine T 15 hS ?_;refine T 16 hS ?_;refine T 17 hS ?_;refine T 21 hS ?_;refine T 22 hS ?_;refine T 23 hS ?_;refine U 18 fun K0 hK=> ?_
 go_simp;go_at_call 94;refine(Ev.own (HE.out _ HBd.out)).mono ?_;rintro r w5 ⟨v5,rfl,hl5,_,hb5⟩;have HB5:=Lh (below_th HBd.out hb5);obtain⟨oa5,oc5,rfl,_⟩:=hl5.words HLe.out.1;have hS:=HC.out _ HB5.out;clear hb5 hl5;refine V hK hS ?_;clear hK K0;refine T 19 hS ?_;refine T 20 hS ?_;refine T 24 hS ?_;refine T 25 hS ?_;refine T 26 hS ?_;refine T 27 hS ?_;refine T 31 hS ?_;refine T 36 hS ?_;refine T 39 hS ?_;refine U 28 fun K0 hK=> ?_
 go_simp;go_at_call 18;refine(Ev.space (HE.out _ HB5.out)).mono ?_;rintro r wz ⟨rfl,rfl⟩;refine V hK hS ?_;clear hK K0;refine U 29 fun K0 hK=> ?_
 go_simp;go_at_call 49;refine(Pag.pages (HE.out _ HB5.out).sp).mono ?_;rintro r w6 ⟨v6,rfl,ho6,hb6⟩;have HB6:=Lh (below_th HB5.out hb6);have hq6:E'.A.length=(Pag.addrs E'.A).length:=by unfold Pag.addrs;rw[List.length_map]
 rw[hq6] at ho6;obtain⟨pa6,pc6,rfl,_⟩:=Rs.words_own ho6;rw[←hq6];have hS:=HC.out _ HB6.out;clear hb6 ho6 hq6;refine V hK hS ?_;clear hK K0;refine T 30 hS ?_;refine U 32 fun K0 hK=> ?_
 go_simp;go_at_call 18;refine(Ev.space (HF.out _ HB6.out)).mono ?_;rintro r wz ⟨rfl,rfl⟩;refine V hK hS ?_;clear hK K0;refine U 33 fun K0 hK=> ?_
 go_simp;go_at_call 49;refine(Pag.pages (HF.out _ HB6.out).sp).mono ?_;rintro r w7 ⟨v7,rfl,ho7,hb7⟩;have HB7:=Lh (below_th HB6.out hb7);have hq7:E.A.length=(Pag.addrs E.A).length:=by unfold Pag.addrs;rw[List.length_map]
 rw[hq7] at ho7;obtain⟨pa7,pc7,rfl,_⟩:=Rs.words_own ho7;rw[←hq7];have hS:=HC.out _ HB7.out;clear hb7 ho7 hq7;refine V hK hS ?_;clear hK K0;refine T 34 hS ?_;refine T 35 hS ?_;refine U 37 fun K0 hK=> ?_
 go_simp;go_at_call 94;refine(Ev.own (HE.out _ HB7.out)).mono ?_;rintro r w8 ⟨v8,rfl,hl8,_,hb8⟩;have HB8:=Lh (below_th HB7.out hb8);obtain⟨oa8,oc8,rfl,_⟩:=hl8.words HLe.out.1;have hS:=HC.out _ HB8.out;clear hb8 hl8;refine V hK hS ?_;clear hK K0;refine T 38 hS ?_;refine U 40 fun K0 hK=> ?_
 go_simp;go_at_call 94;refine(Ev.own (HF.out _ HB8.out)).mono ?_;rintro r w9 ⟨v9,rfl,hl9,_,hb9⟩;have HB9:=Lh (below_th HB8.out hb9);obtain⟨oa9,oc9,rfl,_⟩:=hl9.words HLe.out.2;have hS:=HC.out _ HB9.out;clear hb9 hl9;refine V hK hS ?_;clear hK K0;refine T 41 hS ?_;refine T 42 hS ?_;refine T 43 hS ?_;refine T 44 hS ?_;clear hS;refine wpAnyH_done (by kernel_rfl) ?_ _;have HR0:Hid (wiRel w1 (.int .i64 3) w9):=Lh ⟨3,by omega,by omega,rfl,HB9.out⟩;go_wp2;go_loopw [19] (fun vi wr=>wiRel w1 vi wr) (fun vi _=>16 - (intOf vi).toNat)
 case atStart=>exact HR0.out
 case round=>
  clear HR0;obtain⟨i,hi3,hi,rfl,hb⟩:=hrel;have HBw:=Lh hb;clear hb
  by_cases hin:i<16
  ·have ii:(i:Int)<16:=by omega
   have iw:IntKind.i64.wrap ((i:Int)+1)=(i:Int)+1:=by rw[IntKind.wrap_i64];omega
   have HA1:=Lh (Ev.arg (HE.out _ HBw.out) (i:Int) (by omega) (by omega));have ha2:=Ev.arg (HF.out _ HBw.out) (i:Int) (by omega) (by omega);rw[←HFF.out.r i (by omega)] at ha2;have HA2:=Lh ha2;have fin:wiRel w1 (.int .i64 ((i:Int)+1)) wr:=⟨i+1,by omega,by omega,by simp,HBw.out⟩;have Fin:=Lh fin;clear ha2 fin;go_wp2_with fail;refine HA1.out.mono ?_;rintro r w10 ⟨rfl,rfl⟩;go_wp2_with fail;refine HA2.out.mono ?_;rintro r w10 ⟨rfl,rfl⟩;go_wp2;exact⟨Fin.out,by simp[intOf];omega⟩
  ·obtain rfl:i=16:=by omega
   obtain⟨mb1,V1,sv1,hnc1,_⟩:=(HK.out _ HBw.out).nic;have HN1:=Lh (Ni.sentC hnc1 HSS.out.1);clear hnc1 hi3 hi;go_wp2_with fail;refine(Kl.nic (HK.out _ HBw.out)).mono ?_;rintro r w10 ⟨rfl,rfl⟩;go_wp2_with fail;refine HN1.out.mono ?_;rintro r w10 ⟨v10,rfl,hs10,hb10⟩;have HB10:=Lh (below_th HBw.out hb10);obtain⟨sa,sc,rfl⟩:=hs10.form;have HS10:=Lh hs10;clear hb10 hs10 HN1;obtain⟨mb2,V2,sv2,hnc2,_⟩:=(HX.out _ HB10.out).nic;have HN2:=Lh (Ni.sentC hnc2 HSS.out.2);clear hnc2;go_wp2_with fail;refine(Kl.nic (HX.out _ HB10.out)).mono ?_;rintro r w11 ⟨rfl,rfl⟩;go_wp2_with fail;refine HN2.out.mono ?_;rintro r w11 ⟨v11,rfl,hs11,hb11⟩;have HB11:=Lh (below_th HB10.out hb11);obtain⟨sa2,sc2,rfl⟩:=hs11.form;have HS11:=Lh (HS10.out.below hb11);clear hb11 hs11 HN2 HS10;have hnl:=HSS.out.2;have nw:IntKind.i64.wrap ((K.N.sent.length:Int)+1)=(K.N.sent.length:Int)+1:=by rw[IntKind.wrap_i64];omega
   have hcase:(K'.N.sent.length=K.N.sent.length)∨∃t,K'.N.sent=K.N.sent++[t]∧Ni.portB t=true∧Gp.hasPort (K'.g 1) (Ni.portV t 20)=true:=by
    rcases HFF.out.s with g|⟨t,g1,g2,g3⟩
    ·exact .inl (by rw[g])
    ·rw[HNn.out] at g3;exact .inr ⟨t,g1,g2,by rw[Wi.port_gm HGm.out];exact g3⟩
   have htx:(E'.text.toList == E.text.toList)=true∨((E'.text.toList == E.text.toList)=false∧Gp.con (K'.g 1)=true):=by
    cases q:(E'.text.toList == E.text.toList) with
    |true=>exact .inl rfl
    |false=>
     refine .inr ⟨rfl, ?_⟩;rcases HFF.out.t with g|g
     ·rw[g] at q;simp at q
     ·rw[HNn.out] at g;rw[Wi.con_gm HGm.out];exact g
   have hgood:=pgGood_of HAA.out.1 HAA.out.2 HFF.out.pg;have HGood:=Lh hgood;have hlr:=HLr.out;have HCase:=Lh hcase;have HTx:=Lh htx;clear hcase htx hgood;rcases HCase.out with hq|⟨t,hq1,hq2,hq3⟩
   ·have hq':(K'.N.sent.length:Int)=K.N.sent.length:=by omega
    rw[hq];have g1:¬((K.N.sent.length:Int)+1<K.N.sent.length):=by omega
    have g2:¬((K.N.sent.length:Int)<K.N.sent.length):=by omega
    have g3:((K.N.sent.length:Int) == (K.N.sent.length:Int)+1)=false:=beq_eq_false_iff_ne.2 (by omega);have HB12:=HB11;clear hq hq';go_wp2_with fail;refine(Ev.console (HE.out _ HB12.out)).mono ?_;rintro r w14 ⟨rfl,rfl⟩;go_wp2_with fail;refine(Ev.console (HF.out _ HB12.out)).mono ?_;rintro r w14 ⟨rfl,rfl⟩;rcases HTx.out with hqt|⟨hqt,hqc⟩
    ·have HB15:=HB12;go_wp2_with fail;refine(Ev.space (HE.out _ HB15.out)).mono ?_;rintro r w16 ⟨rfl,rfl⟩;go_wp2_with fail;refine(Ev.space (HF.out _ HB15.out)).mono ?_;rintro r w16 ⟨rfl,rfl⟩;go_wp2_with fail;refine(Ev.own (HF.out _ HB15.out)).mono ?_;rintro r w16 ⟨v16,rfl,hl16,_,hb16⟩;have HB16:=Lh (below_th HB15.out hb16);obtain⟨oa16,oc16,rfl,hw16⟩:=hl16.words HLe.out.2;have HBy:=Lh (bytes (oc:=oc16) (HE.out _ HB16.out).sp (HF.out _ HB16.out).sp hw16 false HGood.out (fun q=>by cases q));clear hb16 hl16 hw16;go_wp2_with fail;refine HBy.out.mono ?_;rintro r w17 ⟨rfl,hb17⟩;have HB17:=Lh (below_th HB16.out hb17);clear hb17 HBy;go_wp2_with fail;refine(Ev.own (HE.out _ HB17.out)).mono ?_;rintro r w18 ⟨v18,rfl,hl18,_,hb18⟩;have HB18:=Lh (below_th HB17.out hb18);obtain⟨oa18,oc18,rfl,_⟩:=hl18.words HLe.out.1;clear hb18 hl18;go_wp2_with fail;refine(Kl.caps (HK.out _ HB18.out)).mono ?_;rintro r w19 ⟨rfl,rfl⟩;go_wp2_with fail;refine(Ca.left (HK.out _ HB18.out).caps (n:=1) ⟨by decide,by decide⟩).mono ?_;rintro r w19 ⟨rfl,hb19⟩;have HB19:=Lh (below_th HB18.out hb19);clear hb19;go_wp2_with fail;refine(Ev.own (HF.out _ HB19.out)).mono ?_;rintro r w20 ⟨v20,rfl,hl20,_,hb20⟩;have HB20:=Lh (below_th HB19.out hb20);obtain⟨oa20,oc20,rfl,_⟩:=hl20.words HLe.out.2;clear hb20 hl20;go_wp2_with fail;refine(Kl.caps (HX.out _ HB20.out)).mono ?_;rintro r w21 ⟨rfl,rfl⟩;go_wp2_with fail;refine(Ca.left (HX.out _ HB20.out).caps (n:=1) ⟨by decide,by decide⟩).mono ?_;rintro r w21 ⟨rfl,hb21⟩;have HX21:=Lh (HEnd.out _ (below_th HB20.out hb21));have wo2:IntKind.u32.wrap (E.own.length:Int)=E.own.length:=by have:=HLe.out.2;exact wrap32 (by omega) (by omega)
     clear hb21;go_wp2
     first|exact⟨rfl,HX21.out⟩|(go_ret;exact⟨rfl,HX21.out⟩)
    ·have HCo:=Lh fun V (hV:Below w1.heap.size w1 V)=>Ca.console (HK.out V hV).caps (n:=1) ⟨by decide,by decide⟩
     rw[hqc] at HCo;clear hqc;go_wp2_with fail;refine(Kl.caps (HK.out _ HB12.out)).mono ?_;rintro r w15 ⟨rfl,rfl⟩;go_wp2_with fail;refine(HCo.out _ HB12.out).mono ?_;rintro r w15 ⟨rfl,hb15⟩;have HB15:=Lh (below_th HB12.out hb15);clear hb15 HCo;go_wp2_with fail;refine(Ev.space (HE.out _ HB15.out)).mono ?_;rintro r w16 ⟨rfl,rfl⟩;go_wp2_with fail;refine(Ev.space (HF.out _ HB15.out)).mono ?_;rintro r w16 ⟨rfl,rfl⟩;go_wp2_with fail;refine(Ev.own (HF.out _ HB15.out)).mono ?_;rintro r w16 ⟨v16,rfl,hl16,_,hb16⟩;have HB16:=Lh (below_th HB15.out hb16);obtain⟨oa16,oc16,rfl,hw16⟩:=hl16.words HLe.out.2;have HBy:=Lh (bytes (oc:=oc16) (HE.out _ HB16.out).sp (HF.out _ HB16.out).sp hw16 false HGood.out (fun q=>by cases q));clear hb16 hl16 hw16;go_wp2_with fail;refine HBy.out.mono ?_;rintro r w17 ⟨rfl,hb17⟩;have HB17:=Lh (below_th HB16.out hb17);clear hb17 HBy;go_wp2_with fail;refine(Ev.own (HE.out _ HB17.out)).mono ?_;rintro r w18 ⟨v18,rfl,hl18,_,hb18⟩;have HB18:=Lh (below_th HB17.out hb18);obtain⟨oa18,oc18,rfl,_⟩:=hl18.words HLe.out.1;clear hb18 hl18;go_wp2_with fail;refine(Kl.caps (HK.out _ HB18.out)).mono ?_;rintro r w19 ⟨rfl,rfl⟩;go_wp2_with fail;refine(Ca.left (HK.out _ HB18.out).caps (n:=1) ⟨by decide,by decide⟩).mono ?_;rintro r w19 ⟨rfl,hb19⟩;have HB19:=Lh (below_th HB18.out hb19);clear hb19;go_wp2_with fail;refine(Ev.own (HF.out _ HB19.out)).mono ?_;rintro r w20 ⟨v20,rfl,hl20,_,hb20⟩;have HB20:=Lh (below_th HB19.out hb20);obtain⟨oa20,oc20,rfl,_⟩:=hl20.words HLe.out.2;clear hb20 hl20;go_wp2_with fail;refine(Kl.caps (HX.out _ HB20.out)).mono ?_;rintro r w21 ⟨rfl,rfl⟩;go_wp2_with fail;refine(Ca.left (HX.out _ HB20.out).caps (n:=1) ⟨by decide,by decide⟩).mono ?_;rintro r w21 ⟨rfl,hb21⟩;have HX21:=Lh (HEnd.out _ (below_th HB20.out hb21));have wo2:IntKind.u32.wrap (E.own.length:Int)=E.own.length:=by have:=HLe.out.2;exact wrap32 (by omega) (by omega)
     clear hb21;go_wp2
     first|exact⟨rfl,HX21.out⟩|(go_ret;exact⟨rfl,HX21.out⟩)
   ·have hql:K'.N.sent.length=K.N.sent.length+1:=by rw[hq1];simp
    have hx:(K'.N.sent.map Value.string)[K.N.sent.length]? =some (.string t):=by rw[hq1];simp
    obtain⟨g,o,ea,hcl⟩:=slv_at HS11.out _ _ hx;subst ea;have HFr:=Lh (fun V=>Ni.from' t (HSz.out t hq1) V);rw[hq2] at HFr;have HPo:=Lh fun V (hV:Below w1.heap.size w1 V)=>Ca.port (HK.out V hV).caps (n:=1) ⟨by decide,by decide⟩ (Ni.portV t 20)
    rw[hq3] at HPo;rw[hql];obtain⟨n,hn⟩:∃n,K.N.sent.length=n:=⟨_,rfl⟩;rw[hn] at hcl hnl nw⊢;have g1:¬((n:Int)+1<(n:Int)+1):=by omega
    have g2:¬((n:Int)+1<n):=by omega
    have g4:(n:Int)<(n:Int)+1:=by omega
    have gc:((n+1:Nat):Int)=(n:Int)+1:=by omega
    clear hq1 hq2 hq3 hx hql hn;go_wp2_with fail;refine(HFr.out _).mono ?_;rintro r w12 ⟨rfl,hb12⟩;have HB12':=Lh (below_th HB11.out hb12);clear hb12 hcl;go_wp2_with fail;refine(Kl.caps (HK.out _ HB12'.out)).mono ?_;rintro r w13 ⟨rfl,rfl⟩;go_wp2_with fail;refine(HPo.out _ HB12'.out).mono ?_;rintro r w13 ⟨rfl,hb13⟩;have HB12:=Lh (below_th HB12'.out hb13);clear hb13 HPo HFr;go_wp2_with fail;refine(Ev.console (HE.out _ HB12.out)).mono ?_;rintro r w14 ⟨rfl,rfl⟩;go_wp2_with fail;refine(Ev.console (HF.out _ HB12.out)).mono ?_;rintro r w14 ⟨rfl,rfl⟩;rcases HTx.out with hqt|⟨hqt,hqc⟩
    ·have HB15:=HB12;go_wp2_with fail;refine(Ev.space (HE.out _ HB15.out)).mono ?_;rintro r w16 ⟨rfl,rfl⟩;go_wp2_with fail;refine(Ev.space (HF.out _ HB15.out)).mono ?_;rintro r w16 ⟨rfl,rfl⟩;go_wp2_with fail;refine(Ev.own (HF.out _ HB15.out)).mono ?_;rintro r w16 ⟨v16,rfl,hl16,_,hb16⟩;have HB16:=Lh (below_th HB15.out hb16);obtain⟨oa16,oc16,rfl,hw16⟩:=hl16.words HLe.out.2;have HBy:=Lh (bytes (oc:=oc16) (HE.out _ HB16.out).sp (HF.out _ HB16.out).sp hw16 false HGood.out (fun q=>by cases q));clear hb16 hl16 hw16;go_wp2_with fail;refine HBy.out.mono ?_;rintro r w17 ⟨rfl,hb17⟩;have HB17:=Lh (below_th HB16.out hb17);clear hb17 HBy;go_wp2_with fail;refine(Ev.own (HE.out _ HB17.out)).mono ?_;rintro r w18 ⟨v18,rfl,hl18,_,hb18⟩;have HB18:=Lh (below_th HB17.out hb18);obtain⟨oa18,oc18,rfl,_⟩:=hl18.words HLe.out.1;clear hb18 hl18;go_wp2_with fail;refine(Kl.caps (HK.out _ HB18.out)).mono ?_;rintro r w19 ⟨rfl,rfl⟩;go_wp2_with fail;refine(Ca.left (HK.out _ HB18.out).caps (n:=1) ⟨by decide,by decide⟩).mono ?_;rintro r w19 ⟨rfl,hb19⟩;have HB19:=Lh (below_th HB18.out hb19);clear hb19;go_wp2_with fail;refine(Ev.own (HF.out _ HB19.out)).mono ?_;rintro r w20 ⟨v20,rfl,hl20,_,hb20⟩;have HB20:=Lh (below_th HB19.out hb20);obtain⟨oa20,oc20,rfl,_⟩:=hl20.words HLe.out.2;clear hb20 hl20;go_wp2_with fail;refine(Kl.caps (HX.out _ HB20.out)).mono ?_;rintro r w21 ⟨rfl,rfl⟩;go_wp2_with fail;refine(Ca.left (HX.out _ HB20.out).caps (n:=1) ⟨by decide,by decide⟩).mono ?_;rintro r w21 ⟨rfl,hb21⟩;have HX21:=Lh (HEnd.out _ (below_th HB20.out hb21));have wo2:IntKind.u32.wrap (E.own.length:Int)=E.own.length:=by have:=HLe.out.2;exact wrap32 (by omega) (by omega)
     clear hb21;go_wp2
     first|exact⟨rfl,HX21.out⟩|(go_ret;exact⟨rfl,HX21.out⟩)
    ·have HCo:=Lh fun V (hV:Below w1.heap.size w1 V)=>Ca.console (HK.out V hV).caps (n:=1) ⟨by decide,by decide⟩
     rw[hqc] at HCo;clear hqc;go_wp2_with fail;refine(Kl.caps (HK.out _ HB12.out)).mono ?_;rintro r w15 ⟨rfl,rfl⟩;go_wp2_with fail;refine(HCo.out _ HB12.out).mono ?_;rintro r w15 ⟨rfl,hb15⟩;have HB15:=Lh (below_th HB12.out hb15);clear hb15 HCo;go_wp2_with fail;refine(Ev.space (HE.out _ HB15.out)).mono ?_;rintro r w16 ⟨rfl,rfl⟩;go_wp2_with fail;refine(Ev.space (HF.out _ HB15.out)).mono ?_;rintro r w16 ⟨rfl,rfl⟩;go_wp2_with fail;refine(Ev.own (HF.out _ HB15.out)).mono ?_;rintro r w16 ⟨v16,rfl,hl16,_,hb16⟩;have HB16:=Lh (below_th HB15.out hb16);obtain⟨oa16,oc16,rfl,hw16⟩:=hl16.words HLe.out.2;have HBy:=Lh (bytes (oc:=oc16) (HE.out _ HB16.out).sp (HF.out _ HB16.out).sp hw16 false HGood.out (fun q=>by cases q));clear hb16 hl16 hw16;go_wp2_with fail;refine HBy.out.mono ?_;rintro r w17 ⟨rfl,hb17⟩;have HB17:=Lh (below_th HB16.out hb17);clear hb17 HBy;go_wp2_with fail;refine(Ev.own (HE.out _ HB17.out)).mono ?_;rintro r w18 ⟨v18,rfl,hl18,_,hb18⟩;have HB18:=Lh (below_th HB17.out hb18);obtain⟨oa18,oc18,rfl,_⟩:=hl18.words HLe.out.1;clear hb18 hl18;go_wp2_with fail;refine(Kl.caps (HK.out _ HB18.out)).mono ?_;rintro r w19 ⟨rfl,rfl⟩;go_wp2_with fail;refine(Ca.left (HK.out _ HB18.out).caps (n:=1) ⟨by decide,by decide⟩).mono ?_;rintro r w19 ⟨rfl,hb19⟩;have HB19:=Lh (below_th HB18.out hb19);clear hb19;go_wp2_with fail;refine(Ev.own (HF.out _ HB19.out)).mono ?_;rintro r w20 ⟨v20,rfl,hl20,_,hb20⟩;have HB20:=Lh (below_th HB19.out hb20);obtain⟨oa20,oc20,rfl,_⟩:=hl20.words HLe.out.2;clear hb20 hl20;go_wp2_with fail;refine(Kl.caps (HX.out _ HB20.out)).mono ?_;rintro r w21 ⟨rfl,rfl⟩;go_wp2_with fail;refine(Ca.left (HX.out _ HB20.out).caps (n:=1) ⟨by decide,by decide⟩).mono ?_;rintro r w21 ⟨rfl,hb21⟩;have HX21:=Lh (HEnd.out _ (below_th HB20.out hb21));have wo2:IntKind.u32.wrap (E.own.length:Int)=E.own.length:=by have:=HLe.out.2;exact wrap32 (by omega) (by omega)
     clear hb21;go_wp2
     first|exact⟨rfl,HX21.out⟩|(go_ret;exact⟨rfl,HX21.out⟩)
end L22
open Go.RowKit Word
structure Kpt(w:World)(a:KAt)(e:EAt)(E:En)(b:Nat)(o:Obj):Prop where
 blk:w.heap[b]? =some o
 ta:a.tag b=0
 te:¬e.foot E.A b
namespace Kpt
variable {w w':World} {a a':KAt} {K':Kn} {e e':EAt} {E E':En} {b:Nat} {o:Obj}
theorem step(h:Kpt w a e E b o)(s:JStep w w' a e E.A a' K' e' E'):Kpt w' a' e' E' b o:=by
 obtain⟨h1,h2,h3⟩:=Kl.jblock s h.blk h.ta h.te;exact⟨h1,h2,h3⟩
theorem below(h:Kpt w a e E b o)(hb:Below w.heap.size w w'):Kpt w' a e E b o:=⟨(hb.block _ (lt_of_block h.blk)).trans h.blk,h.ta,h.te⟩
theorem newC{K:Kn}(h:KE w a K e E)(c:Array Value)(t:TypeId):Kpt (w.alloc (.cells c t)) a e E w.heap.size (.cells c t (0,0)):=
 ⟨heap_alloc_new w _,Decidable.byContradiction fun g=>Nat.lt_irrefl _ (h.kn.lt _ g),fun g=>Nat.lt_irrefl _ (h.en.lt _ g)⟩
theorem cell{c:Array Value}{t:TypeId}(h:Kpt w a e E b (.cells c t (0,0)))(i:Nat)(v:Value)(hi:c[i]? =some v):w.cell? ⟨b,i,none⟩=some v:=by
 unfold World.cell?;rw[h.blk];exact hi
end Kpt
structure Al(w0 w:World)(kb cb eb:Nat)(a:KAt)(K:Kn)(e:EAt)(E F:En):Prop where
 k:KEn w0 w a K e E
 l:En.Like E F
 kb:a.kb=kb
 cb:a.c.cb=cb
 eb:e.eb=eb
namespace Al
variable {w0 w w':World} {kb cb eb:Nat} {a:KAt} {K:Kn} {e:EAt} {E F:En}
theorem below(h:Al w0 w kb cb eb a K e E F)(hb:Below w.heap.size w w'):Al w0 w' kb cb eb a K e E F:= {h with k:=h.k.below hb}
theorem evt_like{E F:En}(K:Kn)(h:En.Like E F)(b c:Nat)(num:Int):Kl.evt K E b num=Kl.evt K F c num:=by
 unfold Kl.evt;rw[h.arg,h.num];have g:=Co.like_call K h b c num
 split
 ·rfl
 ·unfold evOf;rw[g.ev,g.s,g.E.num]
def Post(w0 w:World)(kb cb eb:Nat)(a:KAt)(e:EAt)(E:En)(K':Kn)(F':En)(w':World):Prop:=
 ∃a' e' E',Al w0 w' kb cb eb a' K' e' E' F'∧∀b o,Kpt w a e E b o→Kpt w' a' e' E' b o
theorem do'(h:Al w0 w kb cb eb a K e E F)(hk:F.kind=2)(hs:K.N.sent.length<4398046511104)(num:Int)(h0:0≤num)(h1:num≤4294967295)(hn:(Co.doE K F 0 num).num=F.num):
  Calls Tryz.prog 19 #[.pointer (some ⟨kb,0,none⟩),.pointer (some ⟨eb,0,none⟩),.int .u32 num] w fun r w'=>r=.returned (.tuple #[.agg (Kl.evC (Kl.evt K F 0 num)),.bool (Kl.evt K F 0 num).seen,.int .i64 0])∧Post w0 w kb cb eb a e E (Co.doK K F 0 num) (Co.doE K F 0 num) w':=by
 obtain⟨hke,hl,rfl,rfl,rfl⟩:=h;refine(Kl.does hke.ke hke.num (hl.kind.trans hk) hs num h0 h1).mono ?_;rintro r w' ⟨blk,a',e',rfl,hj⟩;have hE:=Co.like_doE K hl blk 0 num;refine⟨by rw[evt_like K hl blk 0 num],a',e',Co.doE K E blk num, ?_,fun b o hb=>hb.step hj⟩;rw[Co.like_doK K hl blk 0 num] at hj;exact⟨hke.step hj (by rw[hE.num,hn,hl.num]),hE,hj.same.1.1,hj.same.1.2.1,hj.same.2.1⟩
theorem set'(h:Al w0 w kb cb eb a K e E F)(c:Nat→Int)(hc:∀i,0≤c i∧c i≤4294967295)(fr:ByteArray):
  Calls Tryz.prog 15 #[.pointer (some ⟨eb,0,none⟩),.pointer none,.agg (callC 0 0 c fr)] w fun r w'=>r=.returned (.tuple #[])∧Post w0 w kb cb eb a e E K {F with r:=regs4 F.r c 4} w':=by
 obtain⟨hke,hl,rfl,rfl,rfl⟩:=h;refine(Kl.set_nil hke.en 0 0 c fr hc).mono ?_;rintro r w' ⟨rfl,hs⟩;have hj:=(JStep.refl hke.ke).right hs;refine⟨rfl,a,e, {E with r:=regs4 E.r c 4},⟨hke.step hj rfl,⟨hl.num,hl.kind,hl.code,hl.why,hl.text,hl.own,hl.A,by show regs4 E.r c 4=regs4 F.r c 4;rw[hl.r],hl.pc⟩,rfl,rfl,rfl⟩,fun b o hb=>hb.step hj⟩
theorem arg(h:Al w0 w kb cb eb a K e E F)(n:Int)(n0: -9223372036854775808≤n)(n1:n≤9223372036854775807):Calls Tryz.prog 22 #[.pointer (some ⟨eb,0,none⟩),.int .i64 n] w fun r w'=>r=.returned (.int .u32 (F.arg n))∧w=w':=by
 obtain⟨hke,hl,rfl,rfl,rfl⟩:=h;rw[←hl.arg];exact Ev.arg hke.en n n0 n1
theorem console(h:Al w0 w kb cb eb a K e E F):Calls Tryz.prog 68 #[.pointer (some ⟨eb,0,none⟩)] w fun r w'=>r=.returned (.string F.text)∧w=w':=by
 obtain⟨hke,hl,rfl,rfl,rfl⟩:=h;rw[←hl.text];exact Ev.console hke.en
end Al
namespace Cp
def hi22:ByteArray:=⟨#[104,105]⟩
def perm22:Nat→Int:=fun i=>if i=0 then 8 else 1
def code22:Nat→Ins:=fun _=>⟨0,0,0,0,0⟩
def st22(B:Nat):St:=⟨none,0,0,fun _=>0,0,some ⟨B,0,none⟩,2,2,perm22,0,none,0,0,code22,256,hi22⟩
def en22:En:=⟨1,2,0,0,ByteArray.empty,[],madeA perm22 2 0 (strOfNums (textL code22 0)) 256 hi22,regsK (fun _=>0) (min 0 16),0⟩
def c22(x y:Int):Nat→Int:=fun i=>if i=0 then x else if i=1 then y else 0
def k22:Kn:= {Kn.new 4 [] with g:=Gp.upd (fun _=>none) 1 (some ⟨⟨0,[],[],true⟩,0,0⟩)}
def en22a:En:= {en22 with r:=regs4 en22.r (c22 256 2) 4}
def en22b:En:=Co.doE k22 en22a 0 9
def en22c:En:= {en22b with r:=regs4 en22b.r (c22 256 24) 4}
def en22d:En:=Co.doE k22 en22c 0 7
def en22e:En:= {en22d with r:=regs4 en22d.r (c22 512 0) 4}
def en22f:En:=Co.doE k22 en22e 0 3
def en22g:En:=Co.doE k22 en22f 0 99
theorem k22a:Co.doK k22 en22a 0 9=k22:=by kernel_rfl
theorem k22b:Co.doK k22 en22c 0 7=k22:=by kernel_rfl
theorem k22c:Co.doK k22 en22e 0 3=k22:=by kernel_rfl
theorem k22d:Co.doK k22 en22f 0 99=k22:=by kernel_rfl
theorem v22a:Kl.evt k22 en22a 0 9=⟨1,1,hi22,0,true⟩:=by kernel_rfl
theorem v22b:Kl.evt k22 en22c 0 7=⟨0,0,ByteArray.empty,0,false⟩:=by kernel_rfl
theorem v22n:(en22a.kind,en22b.num,en22c.kind,en22d.num,en22e.kind,en22f.num,en22f.kind,en22g.num)=(2,1,2,1,2,1,2,1):=by kernel_rfl
theorem v22r:(en22b.arg 1,en22b.arg 2,en22d.arg 2,en22f.arg 2,en22g.arg 2,en22g.text)=(2,0,1,4,6,hi22):=by kernel_rfl
theorem made22a(W:World)(B:Nat)(h:W.heap[B]? =some (.cells #[.int .u8 8,.int .u8 1] 5 (0,0))):
  Calls Tryz.prog 11 #[.agg (st22 B).cells] W fun e w'=>∃a E b R F,e=.returned (.tuple #[.pointer (some ⟨a.eb,0,none⟩),.pointer (some ⟨b.eb,0,none⟩),.bool true])∧EPair W w' a E b R F∧En.Like E en22:=by
 refine(made22 W (st22 B) ?_).mono ?_
 ·refine⟨fun h=>absurd h (by simp[st22]),fun i hi=>absurd hi (by simp[st22]),by simp[st22],by simp[st22],by simp[st22],fun _=>⟨B,0,rfl,lt_of_block h,fun i hi=> ?_⟩,fun i hi=> ?_,by simp[st22],by simp[st22],by simp[st22],fun h=>absurd h (by simp[st22]),fun i hi=>absurd hi (by simp[st22]),by simp[st22],by simp[st22],by simp[st22],by simp[st22,hi22];decide⟩
  ·have:i=0∨i=1:=by simp only[st22] at hi;omega
   unfold World.cell?;rw[h];rcases this with rfl|rfl<;>rfl
  ·have:i=0∨i=1:=by simp only[st22] at hi;omega
   rcases this with rfl|rfl<;>exact⟨by simp[st22,perm22],by simp[st22,perm22]⟩
 ·rintro e w' ⟨a,E,b,R,F,h1,h2,_,h3⟩;exact⟨a,E,b,R,F,h1,h2,h3⟩
end Cp
open Go.RowKit Word
namespace Cp
theorem eqEv(k n m:Int)(s:ByteArray)(w:World):(binOp .eql 66 (.agg #[.int .u8 k,.int .i64 n,.string s,.int .u32 m]) (.agg #[.int .u8 k,.int .i64 n,.string s,.int .u32 m])).run Tryz.prog w=.ok (.bool true) w:=by
 simp[go_sem,Tryz.underlying66]
theorem call22(x y:Int):callC 0 0 (c22 x y) ByteArray.empty= #[.int .i64 0,.int .u32 0,.int .u32 x,.int .u32 y,.int .u32 0,.int .u32 0,.string ByteArray.empty]:=by simp[callC,c22]
theorem c22_bd(x y:Int)(x0:0≤x)(x1:x≤4294967295)(y0:0≤y)(y1:y≤4294967295)(i:Nat):0≤c22 x y i∧c22 x y i≤4294967295:=by
 unfold c22
 split
 ·exact⟨x0,x1⟩
 ·split
  ·exact⟨y0,y1⟩
  ·omega
theorem gr22:(Ca.grantE 4 [] (fun _=>none) 1 ⟨0,[],[],true⟩ 0,Ca.hardOk 4 [])=(0,true):=by kernel_rfl
theorem words_nil(w:World):Rs.Words w none []:=by
 constructor
 ·exact fun i hi=>absurd hi (Nat.not_lt_zero _)
 ·simp
theorem alive22(w:World):Calls Tryz.prog 9 #[] w fun e w'=>e=.returned (.bool true)∧Below w.heap.size w w':=by
 obtain⟨g1,g3⟩:=(by have:=gr22;simpa only[Prod.mk.injEq] using this:_∧_);obtain⟨n1,n2,n3,n4,n5,n6,n7,n8⟩:=(by have:=v22n;simpa only[Prod.mk.injEq] using this:_∧_∧_∧_∧_∧_∧_∧_);obtain⟨r1,r2,r3,r4,r5,r6⟩:=(by have:=v22r;simpa only[Prod.mk.injEq] using this:_∧_∧_∧_∧_∧_);have HG:=Lh g1;have NN:=Lh (⟨n1,n2,n3,n4,n5,n6,n7,n8⟩:_∧_∧_∧_∧_∧_∧_∧_);have RR:=Lh (⟨r1,r2,r3,r4,r5,r6⟩:_∧_∧_∧_∧_∧_);have HNew:=Lh (Kl.new (a:=none) (cap:=0) (hp:=4) (words_nil w) (by simp) (by omega) g3);clear g1 g3 n1 n2 n3 n4 n5 n6 n7 n8 r1 r2 r3 r4 r5 r6;go_enter func9,ntmps9;go_wp2_with fail;refine HNew.out.mono ?_;rintro r w1 ⟨a,rfl,hk,ht,hb⟩;have HK1:=Lh (And.intro hk (And.intro ht hb));clear hk ht hb HNew;go_wp2_with fail;refine(Kl.caps HK1.out.1).mono ?_;rintro r w2 ⟨rfl,rfl⟩;go_wp2_with fail;refine(Kl.caps HK1.out.1).mono ?_;rintro r w2 ⟨rfl,rfl⟩;go_wp2_with fail;refine(Kl.grant HK1.out.1 (by decide) (by decide) (n:=1) (pg:=0) (Int.le_refl 0) (m:=⟨0,[],[],true⟩) (ev:=.slice none 0 0) (pv:=.slice none 0 0) ⟨SlV.nil _ _ _,SlV.nil _ _ _⟩ ⟨Int.le_refl 0,by decide,fun x hx=>(nomatch hx),fun x hx=>(nomatch hx)⟩).mono ?_;rintro r w2 (⟨g,_⟩|⟨_,rfl,a2,hs⟩)
 ·exact absurd HG.out g
 have hk2:=hs.k;have hbel:Below w.heap.size w w2:=Mod.below HK1.out.2.2 hs.mod HK1.out.2.2.size fun k _ hk=>HK1.out.2.1 k hk.1
 have ht2:∀k,a2.tag k≠0→w.heap.size≤k:=fun k hk=>by
  rcases hs.foot k hk with g|g
  ·exact HK1.out.2.1 k g
  ·have:=HK1.out.2.2.size;omega
 have HK2:Hid (Knl w2 a2 k22∧(∀k,a2.tag k≠0→w.heap.size≤k)∧Below w.heap.size w w2∧a2.kb=a.kb):=Lh ⟨hk2,ht2,hbel,hs.same.1⟩;clear hk2 hbel ht2 hs HK1 HG;have hP:Below w2.heap.size w2 (w2.alloc (.cells #[.int .u8 8,.int .u8 1] 5)):=(Below.refl _ _).alloc (Nat.le_refl _) _;have HM:=Lh (made22a _ _ (heap_alloc_new w2 (.cells #[.int .u8 8,.int .u8 1] 5)));have HP:=Lh hP;clear hP;unfold st22 St.cells hi22 at HM;go_wp2_with fail;refine HM.out.mono ?_;rintro r w3 ⟨e,E,b,R,F,rfl,hp,hl⟩;have hal:Al w w3 a.kb a2.c.cb e.eb a2 k22 e E en22:=by
  have hb23:=below_th HP.out hp.bel;have hk3:=HK2.out.1.below hb23;refine⟨⟨hk3,hp.env,fun x hx=> ?_,below_th HK2.out.2.2.1 hb23,HK2.out.2.1,fun x hx=> ?_,(by rw[hl.num];exact⟨by decide,by decide⟩)⟩,hl,HK2.out.2.2.2,rfl,rfl⟩
  ·have h1:=hp.a0 x hx;exact Decidable.byContradiction fun g=>by
    have h2:=HK2.out.1.lt x g;have h3:=HP.out.size;omega
  ·have h1:=hp.a0 x hx;have h2:=HK2.out.2.2.1.size;have h3:=HP.out.size;omega
 have HA0:=Lh hal;clear hal hp hl HM HP HK2;have hc:=HA0.out.set' (c22 256 2) (c22_bd 256 2 (by omega) (by omega) (by omega) (by omega)) ByteArray.empty;rw[call22] at hc;have HC:=Lh hc;clear hc;go_wp2_with fail;refine HC.out.mono ?_;rintro r w4 ⟨rfl,a4,e4,E4,hal,hkp⟩;have HA4:Hid (Al _ _ _ _ _ _ _ _ _ en22a):=Lh hal;clear hal hkp HC HA0;have hc:=HA4.out.do' NN.out.1 (by decide) 9 (by omega) (by omega) NN.out.2.1
 rw[k22a,v22a] at hc;have HC:=Lh hc;clear hc;unfold Kl.evC hi22 at HC;go_wp2_with fail;refine HC.out.mono ?_;rintro r w5 ⟨rfl,a5,e5,E5,hal,hkp⟩;have HA5:Hid (Al _ _ _ _ _ _ _ _ _ en22b):=Lh hal;have HA6:=Lh (HA5.out.below (w':=w5.alloc (.cells #[.int .u8 1,.int .i64 1,.string ⟨#[104,105]⟩,.int .u32 0] 66)) ((Below.refl _ _).alloc (Nat.le_refl _) _));have HX6:=Lh (Kpt.newC hal.k.ke #[.int .u8 1,.int .i64 1,.string ⟨#[104,105]⟩,.int .u32 0] 66);clear hal hkp HC HA4 HA5;go_wp2_with fail;refine(HA6.out.arg 1 (by omega) (by omega)).mono ?_;rintro r w6 ⟨rfl,rfl⟩;rw[RR.out.1];go_wp2_with fail;refine(HA6.out.arg 2 (by omega) (by omega)).mono ?_;rintro r w6 ⟨rfl,rfl⟩;rw[RR.out.2.1];generalize hw6:w5.alloc (.cells #[.int .u8 1,.int .i64 1,.string ⟨#[104,105]⟩,.int .u32 0] 66)=w6 at*;generalize w5.heap.size=xb at*;clear hw6 w5;have hc:=HA6.out.set' (c22 256 24) (c22_bd 256 24 (by omega) (by omega) (by omega) (by omega)) ByteArray.empty;rw[call22] at hc;have HC:=Lh hc;clear hc;go_wp2_with fail;refine HC.out.mono ?_;rintro r w7 ⟨rfl,a7,e7,E7,hal,hkp⟩;have HA7:Hid (Al _ _ _ _ _ _ _ _ _ en22c):=Lh hal;have HX7:=Lh (hkp _ _ HX6.out);clear hal hkp HC HA6;have hc:=HA7.out.do' NN.out.2.2.1 (by decide) 7 (by omega) (by omega) NN.out.2.2.2.1
 rw[k22b,v22b] at hc;have HC:=Lh hc;clear hc;unfold Kl.evC at HC;go_wp2_with fail;refine HC.out.mono ?_;rintro r w8 ⟨rfl,a8,e8,E8,hal,hkp⟩;have HA8:Hid (Al _ _ _ _ _ _ _ _ _ en22d):=Lh hal;have hX8:=hkp _ _ HX7.out;have hb9:Below w8.heap.size w8 (w8.alloc (.cells #[.int .u8 0,.int .i64 0,.string ByteArray.empty,.int .u32 0] 66)):=(Below.refl _ _).alloc (Nat.le_refl _) _;have HA9:=Lh (HA8.out.below hb9);have HX9:=Lh (hX8.below hb9);clear hal hkp HC HA7 HA8 hX8 hb9 HX7;go_wp2_with fail;refine(HA9.out.arg 2 (by omega) (by omega)).mono ?_;rintro r w9 ⟨rfl,rfl⟩;rw[RR.out.2.2.1];generalize hw9:w8.alloc (.cells #[.int .u8 0,.int .i64 0,.string ByteArray.empty,.int .u32 0] 66)=w9 at*;generalize w8.heap.size=yb at*;clear hw9 w8;have hc:=HA9.out.set' (c22 512 0) (c22_bd 512 0 (by omega) (by omega) (by omega) (by omega)) ByteArray.empty;rw[call22] at hc;have HC:=Lh hc;clear hc;go_wp2_with fail;refine HC.out.mono ?_;rintro r w10 ⟨rfl,a10,e10,E10,hal,hkp⟩;have HA10:Hid (Al _ _ _ _ _ _ _ _ _ en22e):=Lh hal;have HX10:=Lh (hkp _ _ HX9.out);clear hal hkp HC HA9;have hc:=HA10.out.do' NN.out.2.2.2.2.1 (by decide) 3 (by omega) (by omega) NN.out.2.2.2.2.2.1
 rw[k22c] at hc;have HC:=Lh hc;clear hc;go_wp2_with fail;refine HC.out.mono ?_;rintro r w11 ⟨rfl,a11,e11,E11,hal,hkp⟩;have HA11:Hid (Al _ _ _ _ _ _ _ _ _ en22f):=Lh hal;have HX11:=Lh (hkp _ _ HX10.out);clear hal hkp HC HA10 HX10;go_wp2_with fail;refine(HA11.out.arg 2 (by omega) (by omega)).mono ?_;rintro r w12 ⟨rfl,rfl⟩;rw[RR.out.2.2.2.1];have hc:=HA11.out.do' NN.out.2.2.2.2.2.2.1 (by decide) 99 (by omega) (by omega) NN.out.2.2.2.2.2.2.2
 rw[k22d] at hc;have HC:=Lh hc;clear hc;go_wp2_with fail;refine HC.out.mono ?_;rintro r w13 ⟨rfl,a13,e13,E13,hal,hkp⟩;have HA13:Hid (Al _ _ _ _ _ _ _ _ _ en22g):=Lh hal;have HX13:=Lh (hkp _ _ HX11.out);clear hal hkp HC HA11 HX11;have x0:=HX13.out.cell 0 _ rfl;have x1:=HX13.out.cell 1 _ rfl;have x2:=HX13.out.cell 2 _ rfl;have x3:=HX13.out.cell 3 _ rfl;have hq:=eqEv 1 1 0 ⟨#[104,105]⟩ w13;go_wp2_with fail;refine(HA13.out.arg 2 (by omega) (by omega)).mono ?_;rintro r w14 ⟨rfl,rfl⟩;rw[RR.out.2.2.2.2.1];clear x0 x1 x2 x3 hq;go_wp2_with fail;refine HA13.out.console.mono ?_;rintro r w14 ⟨rfl,rfl⟩;rw[RR.out.2.2.2.2.2];unfold hi22;go_wp2;go_ret;exact⟨rfl,HA13.out.k.bel⟩
end Cp
namespace L22
open In
theorem refused{w:World}{a x:KAt}{K:Kn}{e f:EAt}{E E':En}(hk:Knl w a K)(hx:Knl w x K)(he:Env w e E')(hf:Env w f E){d:WdI}(hd:d.pre w){la:Option Addr}{lcap:Nat}{l:List ClI}(hl:Cls w la l)(hl16:d.h.l.length≤16)(hs2:K.N.sent.length≤2000000)
  (h1:E'.arg 1=0) (h2:E'.text=E.text) (h3:E'.own=E.own) (h4:E'.kind=E.kind∧E'.code=E.code∧E'.why=E.why) (h5:cores E'.A=cores E.A) (hA:Kp.Ok E.A):
  Calls Tryz.prog 23 #[.pointer (some ⟨a.kb,0,none⟩),.pointer (some ⟨x.kb,0,none⟩),.pointer (some ⟨e.eb,0,none⟩),.pointer (some ⟨f.eb,0,none⟩),.agg d.cells,.slice la l.length lcap,.bool false] w fun r w'=>r=.returned (.bool true)∧Below w.heap.size w w':=by
 have hb:Below w.heap.size w (w.alloc (.cells d.cells 37)):=(Below.refl _ _).alloc (Nat.le_refl _) _;have hbx:WBox (w.alloc (.cells d.cells 37)) w.heap.size d:=⟨heap_alloc_new w _⟩;have HB:=Lh hb;have hk1:=hk.below hb;have hx1:=hx.below hb;have he1:=he.below hb;have hf1:=hf.below hb;have hd1:=Ca.words_below hd.h.w hb;have hl1:=hl.below hb;obtain⟨w1,hw1⟩:∃w1,w.alloc (.cells d.cells 37)=w1:=⟨_,rfl⟩;obtain⟨bx,hbxe⟩:∃bx,w.heap.size=bx:=⟨_,rfl⟩;rw[hw1] at hbx HB hk1 hx1 he1 hf1 hd1 hl1;rw[hbxe] at hbx;have HK:=Lh fun V (hV:Below w1.heap.size w1 V)=>hk1.below hV
 have HX:=Lh fun V (hV:Below w1.heap.size w1 V)=>hx1.below hV
 have HE:=Lh fun V (hV:Below w1.heap.size w1 V)=>he1.below hV
 have HF:=Lh fun V (hV:Below w1.heap.size w1 V)=>hf1.below hV
 have HC:Hid (∀V,Below w1.heap.size w1 V→V.cell? ⟨bx,0,none⟩=some (.int .u32 d.h.p)∧V.cell? ⟨bx,1,none⟩=some (.slice d.h.a d.h.l.length d.h.cap)):=Lh fun V hV=>by
  have h:=hbx.below hV;exact⟨h.cell 0 _ rfl,h.cell 1 _ rfl⟩
 have HEnd:Hid (∀V,Below w1.heap.size w1 V→Below w.heap.size w V):=Lh fun V hV=>below_th HB.out hV
 have HBlk:=Lh (blocks (hp:=d.h.p) (cap:=d.h.cap) hx1 hk1 hd1 hd.h.bd hl16);have HW1:=Lh fun V (hV:Below w1.heap.size w1 V)=>waiting (lcap:=lcap) (hk1.below hV) (hl1.below hV)
 have HW2:=Lh fun V (hV:Below w1.heap.size w1 V)=>waiting (lcap:=lcap) (hx1.below hV) (hl1.below hV)
 obtain⟨o1,ho1⟩:∃o,wtO (fun p=>(K.N.q p).length) (fun p=>Gp.hasPort (K.g 1) p) l l.length=o:=⟨_,rfl⟩;obtain⟨t1,ht1⟩:∃o,wtT (fun p=>(K.N.q p).length) l l.length=o:=⟨_,rfl⟩;rw[ho1,ht1] at HW1 HW2;have HSS:=Lh hs2;have H1:=Lh h1;have H2:=Lh h2;have H3:=Lh h3;have H4:=Lh h4;have H5:=Lh h5;have HAA:=Lh hA;have HLe:=Lh hf1.ok.len;clear hb hk hx he hf hd hl hk1 hx1 he1 hf1 hd1 hl1 ho1 ht1 hs2 h1 h2 h3 h4 h5 hA hl16;obtain⟨c0,c1⟩:=HC.out w1 (Below.refl _ _);unfold WdI.cells HdI.v MnI.ev MnI.pv at hw1⊢;go_enter func23,ntmps23;go_wp2_with fail;try rw[hw1]
 try rw[hbxe]
 clear hw1 hbxe hbx;refine HBlk.out.mono ?_;rintro r w2 ⟨cc,oo,rfl,hcc,_,hb2⟩;obtain rfl:cc=0:=hcc fun _ _ _ _=>rfl
 have HB2:=Lh hb2;clear hcc hb2 HBlk c0 c1;go_wp2_with fail;refine(HW1.out _ HB2.out).mono ?_;rintro r w3 ⟨rfl,hb3⟩;have HB3:=Lh (below_th HB2.out hb3);clear hb3;go_wp2_with fail;refine(HW2.out _ HB3.out).mono ?_;rintro r w4 ⟨rfl,hb4⟩;have HB4:=Lh (below_th HB3.out hb4);clear hb4 HW1 HW2;have ha1:=Ev.arg (HE.out _ HB4.out) 1 (by decide) (by decide);rw[H1.out] at ha1;have HA1:=Lh ha1;clear ha1;go_wp2_with fail;refine HA1.out.mono ?_;rintro r w5 ⟨rfl,rfl⟩;obtain⟨mb1,V1,sv1,hnc1,_⟩:=(HK.out _ HB4.out).nic;have HN1:=Lh (Ni.sentC hnc1 HSS.out);clear hnc1 HA1;go_wp2_with fail;refine(Kl.nic (HK.out _ HB4.out)).mono ?_;rintro r w5 ⟨rfl,rfl⟩;go_wp2_with fail;refine HN1.out.mono ?_;rintro r w5 ⟨v5,rfl,hs5,hb5⟩;have HB5:=Lh (below_th HB4.out hb5);obtain⟨sa,sc,rfl⟩:=hs5.form;clear hb5 hs5 HN1;obtain⟨mb2,V2,sv2,hnc2,_⟩:=(HX.out _ HB5.out).nic;have HN2:=Lh (Ni.sentC hnc2 HSS.out);clear hnc2;go_wp2_with fail;refine(Kl.nic (HX.out _ HB5.out)).mono ?_;rintro r w6 ⟨rfl,rfl⟩;go_wp2_with fail;refine HN2.out.mono ?_;rintro r w6 ⟨v6,rfl,hs6,hb6⟩;have HB6:=Lh (below_th HB5.out hb6);obtain⟨sa2,sc2,rfl⟩:=hs6.form;have hc1:=Ev.console (HE.out _ HB6.out);rw[H2.out] at hc1;have HC1:=Lh hc1;have HC2:=Lh (Ev.console (HF.out _ HB6.out));clear hb6 hs6 HN2 hc1;go_wp2_with fail;refine HC1.out.mono ?_;rintro r w7 ⟨rfl,rfl⟩;go_wp2_with fail;refine HC2.out.mono ?_;rintro r w7 ⟨rfl,rfl⟩;go_wp2_with fail;refine(Ev.own (HE.out _ HB6.out)).mono ?_;rintro r w7 ⟨v7,rfl,hl7,_,hb7⟩;rw[H3.out] at hl7;have HB7:=Lh (below_th HB6.out hb7);obtain⟨oa7,oc7,rfl,hw7⟩:=hl7.words HLe.out;have HW7:=Lh fun V (hV:Below w7.heap.size w7 V)=>Ca.words_below hw7 hV
 clear hb7 hl7 hw7 HC1 HC2;go_wp2_with fail;refine(Ev.own (HF.out _ HB7.out)).mono ?_;rintro r w8 ⟨v8,rfl,hl8,_,hb8⟩;have HB8:=Lh (below_th HB7.out hb8);obtain⟨oa8,oc8,rfl,hw8⟩:=hl8.words HLe.out;have hsw:=Rs.sameWords (ca:=oc7) (cb:=oc8) (HW7.out _ hb8) hw8;rw[decide_eq_true rfl] at hsw;have HSw:=Lh hsw;clear hb8 hl8 hw8 hsw HW7;go_wp2_with fail;refine HSw.out.mono ?_;rintro r w9 ⟨rfl,hb9⟩;have HB9:=Lh (below_th HB8.out hb9);have hst:=Ev.state (HE.out _ HB9.out);rw[H4.out.1,H4.out.2.1,H4.out.2.2] at hst;have HSt:=Lh hst;have hes:=Cp.eqState E.kind E.code E.why;clear hb9 HSw hst;go_wp2_with fail;refine HSt.out.mono ?_;rintro r w10 ⟨rfl,hb10⟩;have HB10:=Lh (below_th HB9.out hb10);clear hb10 HSt;go_wp2_with fail;refine(Ev.state (HF.out _ HB10.out)).mono ?_;rintro r w11 ⟨rfl,hb11⟩;have HB11:=Lh (below_th HB10.out hb11);clear hb11;go_wp2_with fail;refine(Ev.space (HE.out _ HB11.out)).mono ?_;rintro r w12 ⟨rfl,rfl⟩;go_wp2_with fail;refine(Ev.space (HF.out _ HB11.out)).mono ?_;rintro r w12 ⟨rfl,rfl⟩;have hsp:=(HE.out _ HB11.out).sp;have HBy:=Lh (bytes (oa:=none) (oc:=0) (own:=[]) hsp (HF.out _ HB11.out).sp (Cp.words_nil _) true (pgGood_cores H5.out HAA.out [] true) (fun _=>Cor.len_eq H5.out));clear hsp;go_wp2_with fail;refine HBy.out.mono ?_;rintro r w13 ⟨rfl,hb13⟩;have HX13:=Lh (HEnd.out _ (below_th HB11.out hb13));clear hb13 HBy;go_wp2
 first|exact⟨rfl,HX13.out⟩|(go_ret;exact⟨rfl,HX13.out⟩)
end L22
end Go.Proofs.YtjjdjpdmgaipeaaGreat
