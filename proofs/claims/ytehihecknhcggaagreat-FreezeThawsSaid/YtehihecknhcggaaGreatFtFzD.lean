/- FzD, FzC, FzT, FzH, RenvW in one text. -/
import Derived.Test.YtehihecknhcggaaGreatFtFzPut
import Derived.Test.YtehihecknhcggaaGreatFtGraG
import Derived.Test.YtehihecknhcggaaGreatFtEnvW
import Derived.Test.YtehihecknhcggaaGreatFtMade06
import Derived.Test.YtehihecknhcggaaGreatFtPag
import Derived.Test.YtehihecknhcggaaGreatFtFzLg
import Derived.Test.YtehihecknhcggaaGreatFtCor
import Derived.Test.YtehihecknhcggaaGreatFtZa
set_option linter.unusedVariables false
set_option linter.unusedSimpArgs false
set_option maxRecDepth 100000
set_option maxHeartbeats 16000000
open Go.Proofs.Tryz
namespace Go.Proofs.YtehihecknhcggaaGreat.Fz
open Go.RowKit In
theorem okB_eq(pa pp:Int)(po:Bool)(pt:ByteArray):Fp.okB ⟨pa,pp,po,pt⟩=(Sp.mayB pa&&(decide (pp≤7)&&(decide (pt.size=256)&&(!po||(decide (pp=3)&&decide (256≤pa)))))):=by
 unfold Fp.okB Sp.mayB;rw[show(pa % 256 == 0)=decide (pa % 256=0) from rfl];simp only[Bool.and_assoc]
theorem pageD{p:Fp}(a0:0≤p.addr∧p.addr≤4294967295)(w:World):Calls Tryz.prog 203 #[.agg #[.int .u32 p.addr,.int .u8 p.perm,.bool p.own,.string p.text]] w fun e w'=>e=.returned (.bool p.okB)∧Below w.heap.size w w':=by
 obtain⟨pa,pp,po,pt⟩:=p;simp only at a0;have HB:=Lh ((Below.refl w.heap.size w).alloc (Nat.le_refl _) (.cells #[.int .u32 pa,.int .u8 pp,.bool po,.string pt] 151));have HM:=Lh fun V=>Rs.may pa a0.1 a0.2 V
 rw[okB_eq];clear a0;cases hm:Sp.mayB pa with
 |false=>
  rw[hm] at HM;go_enter func203,ntmps203;go_wp2_with (go_at_call 205;refine(HM.out _).mono ?_;rintro e w1 ⟨rfl,rfl⟩)
  first|exact⟨rfl,HB.out⟩|(go_ret;exact⟨rfl,HB.out⟩)
 |true=>
  rw[hm] at HM
  by_cases g2:(7:Int)<pp
  ·rw[show decide (pp≤7)=false from decide_eq_false (by omega)];go_enter func203,ntmps203;go_wp2_with (go_at_call 205;refine(HM.out _).mono ?_;rintro e w1 ⟨rfl,rfl⟩)
   first|exact⟨rfl,HB.out⟩|(go_ret;exact⟨rfl,HB.out⟩)
  ·rw[show decide (pp≤7)=true from decide_eq_true (by omega)]
   by_cases g3:(pt.size:Int)=256
   ·have q3:((pt.size:Int) != 256)=false:=by rw[g3];rfl
    rw[show decide (pt.size=256)=true from decide_eq_true (by omega)];cases po with
    |false=>
     go_enter func203,ntmps203;go_wp2_with (go_at_call 205;refine(HM.out _).mono ?_;rintro e w1 ⟨rfl,rfl⟩)
     first|exact⟨rfl,HB.out⟩|(go_ret;exact⟨rfl,HB.out⟩)
    |true=>
     by_cases g4:pp=3
     ·subst g4;rw[show decide ((3:Int)=3)=true from rfl]
      by_cases g5:(256:Int)≤pa
      ·have q5:decide ((256:Int)≤pa)=true:=decide_eq_true g5;rw[q5];go_enter func203,ntmps203;go_wp2_with (go_at_call 205;refine(HM.out _).mono ?_;rintro e w1 ⟨rfl,rfl⟩)
       first|exact⟨rfl,HB.out⟩|(go_ret;exact⟨rfl,HB.out⟩)
      ·have q5:decide ((256:Int)≤pa)=false:=decide_eq_false g5;rw[q5];go_enter func203,ntmps203;go_wp2_with (go_at_call 205;refine(HM.out _).mono ?_;rintro e w1 ⟨rfl,rfl⟩)
       first|exact⟨rfl,HB.out⟩|(go_ret;exact⟨rfl,HB.out⟩)
     ·rw[show decide (pp=3)=false from decide_eq_false g4];have q4:(pp == 3)=false:=by rw[beq_eq_false_iff_ne];exact g4
      go_enter func203,ntmps203;go_wp2_with (go_at_call 205;refine(HM.out _).mono ?_;rintro e w1 ⟨rfl,rfl⟩)
      first|exact⟨rfl,HB.out⟩|(go_ret;exact⟨rfl,HB.out⟩)
   ·have q3:((pt.size:Int) != 256)=true:=bne_iff_ne.2 g3;rw[show decide (pt.size=256)=false from decide_eq_false (by omega)];go_enter func203,ntmps203;go_wp2_with (go_at_call 205;refine(HM.out _).mono ?_;rintro e w1 ⟨rfl,rfl⟩)
    first|exact⟨rfl,HB.out⟩|(go_ret;exact⟨rfl,HB.out⟩)
theorem mayD{w:World}{x:Fr}{ev pv sv:Value}(h:FrV w x ev pv sv)(ho:x.ok)(hl:x.sp.length≤70000):
  Calls Tryz.prog 96 #[.agg (x.arr ev pv sv)] w fun e w'=>(x.may∧e=.returned (.bool true)∨¬x.may∧e=.returned (.bool false))∧Below w.heap.size w w':=by
 obtain⟨so,sc,rfl⟩:=h.s.form;have hb:Below w.heap.size w (w.alloc (.cells (x.arr ev pv (.slice so x.sp.length sc)) 52)):=Ba _;have hx:FBox (w.alloc (.cells (x.arr ev pv (.slice so x.sp.length sc)) 52)) w.heap.size x ev pv (.slice so x.sp.length sc):=heap_alloc_new w _;have h1:=h.below hb;obtain⟨w1,hw1⟩:∃w1,w.alloc (.cells (x.arr ev pv (.slice so x.sp.length sc)) 52)=w1:=⟨_,rfl⟩;obtain⟨xb,hxb⟩:∃b,w.heap.size=b:=⟨_,rfl⟩;rw[hw1] at hb hx h1;rw[hxb] at hx;have HB:=Lh hb;have HX:=Lh hx;have HI:=Lh fun V (hV:Below w1.heap.size w1 V)=>h1.below hV
 have HC:Hid (∀V,Below w1.heap.size w1 V→V.cell? ⟨xb,0,none⟩=some (.int .u32 x.m.pages)∧V.cell? ⟨xb,1,none⟩=some ev∧V.cell? ⟨xb,2,none⟩=some pv∧V.cell? ⟨xb,3,none⟩=some (.bool x.m.con)∧V.cell? ⟨xb,4,none⟩=some (.int .u32 (x.r 0))∧V.cell? ⟨xb,21,none⟩=some (.slice so x.sp.length sc)∧V.cell? ⟨xb,22,none⟩=some (.string x.text)∧True):=Lh fun V hV=>by
  have q:=HX.out.keep (Mod.of_below hV fun _=>False) id;exact⟨q.cell 0 _ rfl,q.cell 1 _ rfl,q.cell 2 _ rfl,q.cell 3 _ rfl,q.cell 4 _ rfl,q.cell 21 _ rfl,q.cell 22 _ rfl,trivial⟩
 have HO:=Lh ho;have HL:=Lh hl;have HDm:=Lh fun V (hV:Below w1.heap.size w1 V)=>R11.may (h1.below hV).m ho.m
 obtain⟨c0,c1,c2,c3,c4,c21,c22,_⟩:=HC.out w1 Br;have HR0:Hid (ckRelA w1 x.sp (.int .u32 0) (.int .i64 0) w1):=Lh ⟨0,Nat.zero_le _,rfl,rfl,Below.refl _ _,good_zero _⟩;clear h ho hl hb hx h1;unfold Fr.arr at hw1⊢;go_enter func96,ntmps96;go_wp2;try rw[hw1]
 try rw[hxb]
 clear hw1 hxb;go_loopw [3,4] (fun vo vi wr=>ckRelA w1 x.sp vo vi wr) (fun _ vi _=>x.sp.length - (intOf vi).toNat)
 case atStart=>exact HR0.out
 case round=>
  clear HR0 c0 c1 c2 c3 c4 c21 c22;obtain⟨i,hi,rfl,rfl,hbw,hgi⟩:=hrel;obtain⟨c0,c1,c2,c3,c4,c21,c22,_⟩:=HC.out wr hbw;have HBw:=Lh hbw;clear hbw
  by_cases hin:i<x.sp.length
  ·have ii:(i:Int)<x.sp.length:=by omega
   have hr:=(HI.out wr HBw.out).s;obtain⟨g,off,rfl,p0,p1,p2,p3⟩:=pg_cellsV hr hin;obtain⟨hs1,hs2,hs3⟩:=HO.out.s _ (List.getElem_mem hin);have hgs:=good_succ hin hgi;have hnp:=may_pg hin;have hnu:=may_up hin;have hot:=owns_take x.sp i hin;have hle:=owns_le (x.sp.take i);rw[List.length_take] at hle;have hprev:∀k,i=k+1→∃b,wr.cell? ⟨g,off+k*4,none⟩=some (.int .u32 b)∧(¬x.sp[i].addr≤b→x.sp[i].may→good x.sp (i+1))∧(x.sp[i].addr≤b→¬x.may):=fun k hk=>by
    have hk':k<x.sp.length:=by omega
    obtain⟨g',off',e1,q0,_⟩:=pg_cellsV hr hk';simp only[Option.some.injEq,Addr.mk.injEq,and_true] at e1;obtain⟨rfl,rfl⟩:=e1;refine⟨_,q0,fun h1 h2=>hgs h2 (fun k' e=> ?_),fun h1 h2=> ?_⟩
    ·obtain rfl:k'=k:=by omega
     omega
    ·have:=hnu h2 k hk;omega
   generalize hp:x.sp[i]=p at*;obtain⟨pa,pp,po,pt⟩:=p;simp only at p0 p1 p2 p3 hs1 hot;have HPg:=Lh fun V=>pageD (p:=⟨pa,pp,po,pt⟩) hs1 V
   have HOt:=Lh hot;have HLe:=Lh hle;have hiw:(i:Int)≤70000:=by have:=HL.out;omega
   have i0:(0:Int)≤(i:Int):=by omega
   have iw1:IntKind.i64.wrap ((i:Int)+1)=(i:Int)+1:=by rw[IntKind.wrap_i64];omega
   have iw2:IntKind.u32.wrap ((owns (x.sp.take i):Int)+1)=(owns (x.sp.take i):Int)+1:=by have:=HL.out;rw[IntKind.wrap_u32];omega
   clear hr hs2 hs3 hot hle hs1 hiw hnu hgi
   by_cases hok:(Fp.okB ⟨pa,pp,po,pt⟩)=true
   ·have hpm:(⟨pa,pp,po,pt⟩:Fp).may:=Fp.okB_iff.1 hok;simp only[hok] at HPg
    by_cases h0:i=0
    ·subst h0;have HGd:Hid (good x.sp (0+1)):=Lh (hgs hpm fun k e=>by omega);clear hgs hnp hprev hok hpm;rw[Nat.zero_mul,Nat.add_zero] at p0 p1 p2 p3;have HS:Hid (∀V,Below wr.heap.size wr V→(fun V=>V.cell? ⟨xb,21,none⟩=some (.slice (some ⟨g,off,none⟩) x.sp.length sc)∧V.cell? ⟨g,off,none⟩=some (.int .u32 pa)∧V.cell? ⟨g,off+1,none⟩=some (.int .u8 pp)∧V.cell? ⟨g,off+2,none⟩=some (.bool po)∧V.cell? ⟨g,off+3,none⟩=some (.string pt)∧True) V):=Lh fun V hV=>⟨(HC.out V (bQ HBw.out hV)).2.2.2.2.2.1,cellK hV p0,cellK hV p1,cellK hV p2,cellK hV p3,trivial⟩
     go_wp2_with fail;clear c0 c1 c2 c3 c4 c21 c22 p0 p1 p2 p3;refine B (fun V=>V.cell? ⟨xb,21,none⟩=some (.slice (some ⟨g,off,none⟩) x.sp.length sc)∧V.cell? ⟨g,off,none⟩=some (.int .u32 pa)∧V.cell? ⟨g,off+1,none⟩=some (.int .u8 pp)∧V.cell? ⟨g,off+2,none⟩=some (.bool po)∧V.cell? ⟨g,off+3,none⟩=some (.string pt)∧True) (HS.out _ Br.drew) ?_;intro wd hwd hS;have HBd:Hid (Below wr.heap.size wr wd):=Lh (by subst hwd;exact Br.drew);clear hwd;refine T 0 hS ?_;refine T 1 hS ?_;refine T 2 hS ?_;refine T 3 hS ?_;refine T 4 hS ?_;refine U 5 fun K' hK=> ?_
     go_simp;go_at_call 203;refine(HPg.out _).mono ?_;rintro e w3 ⟨rfl,hb3⟩;have HB3:=Lh (bQ HBd.out hb3);have hS3:=HS.out w3 HB3.out;clear hb3 hS;refine V hK hS3 ?_;clear hK K';refine T 6 hS3 ?_;refine T 7 hS3 ?_;refine T 8 hS3 ?_;refine T 9 hS3 ?_;refine T 10 hS3 ?_;refine TN 11 hS3 ?_;refine TN 12 hS3 ?_;refine TN 13 hS3 ?_;refine TN 14 hS3 ?_;refine TN 15 hS3 ?_;refine TN 16 hS3 ?_;refine TN 17 hS3 ?_;refine TN 18 hS3 ?_;refine TN 19 hS3 ?_;refine TN 20 hS3 ?_;refine TN 21 hS3 ?_;refine TN 22 hS3 ?_;refine TN 23 hS3 ?_;refine TN 24 hS3 ?_;refine T 25 hS3 ?_;refine T 26 hS3 ?_;refine wpAnyH_done (by kernel_rfl) ?_ _;have HB4:=Lh (bQ HBw.out HB3.out);obtain⟨d0,d1,d2,d3,d4,_⟩:=hS3;clear HS HPg;cases po with
     |true=>
      have Fin:Hid (ckRelA w1 x.sp (.int .u32 ((owns (x.sp.take 0):Int)+1)) (.int .i64 ((0:Int)+1)) w3):=Lh ⟨(0)+1,hin,by simp,by rw[HOt.out];simp,HB4.out,HGd.out⟩;go_wp2;exact⟨Fin.out,by simp[intOf];omega⟩
     |false=>
      have Fin:Hid (ckRelA w1 x.sp (.int .u32 (owns (x.sp.take 0))) (.int .i64 ((0:Int)+1)) w3):=Lh ⟨(0)+1,hin,by simp,by rw[HOt.out];simp,HB4.out,HGd.out⟩;go_wp2;exact⟨Fin.out,by simp[intOf];omega⟩
    ·obtain⟨k,rfl⟩:∃k,i=k+1:=⟨i - 1,by omega⟩;obtain⟨b,hb,hlt1,hlt2⟩:=hprev k rfl;clear hprev;have k0:(0:Int)<(k:Int)+1:=by omega
     have k1:(0:Int)≤(k:Int)+1:=by omega
     have k2:(0:Int)≤(k:Int):=by omega
     have iwk:IntKind.i64.wrap (k:Int)=k:=by have:=HL.out;rw[IntKind.wrap_i64];omega
     have iw3:IntKind.i64.wrap ((k:Int)+1+1)=(k:Int)+1+1:=by have:=HL.out;rw[IntKind.wrap_i64];omega
     have kl:(k:Int)<x.sp.length:=by omega
     by_cases hlt:pa≤b
     ·have HNo:=Lh (hlt2 hlt);clear hlt1 hlt2 hgs hnp hok hpm;have HS:Hid (∀V,Below wr.heap.size wr V→(fun V=>V.cell? ⟨xb,21,none⟩=some (.slice (some ⟨g,off,none⟩) x.sp.length sc)∧V.cell? ⟨g,off+(k+1)*4,none⟩=some (.int .u32 pa)∧V.cell? ⟨g,off+(k+1)*4+1,none⟩=some (.int .u8 pp)∧V.cell? ⟨g,off+(k+1)*4+2,none⟩=some (.bool po)∧V.cell? ⟨g,off+(k+1)*4+3,none⟩=some (.string pt)∧V.cell? ⟨g,off+k*4,none⟩=some (.int .u32 b)∧True) V):=Lh fun V hV=>⟨(HC.out V (bQ HBw.out hV)).2.2.2.2.2.1,cellK hV p0,cellK hV p1,cellK hV p2,cellK hV p3,cellK hV hb,trivial⟩
      go_wp2_with fail;clear c0 c1 c2 c3 c4 c21 c22 p0 p1 p2 p3;refine B (fun V=>V.cell? ⟨xb,21,none⟩=some (.slice (some ⟨g,off,none⟩) x.sp.length sc)∧V.cell? ⟨g,off+(k+1)*4,none⟩=some (.int .u32 pa)∧V.cell? ⟨g,off+(k+1)*4+1,none⟩=some (.int .u8 pp)∧V.cell? ⟨g,off+(k+1)*4+2,none⟩=some (.bool po)∧V.cell? ⟨g,off+(k+1)*4+3,none⟩=some (.string pt)∧V.cell? ⟨g,off+k*4,none⟩=some (.int .u32 b)∧True) (HS.out _ Br.drew) ?_;intro wd hwd hS;have HBd:Hid (Below wr.heap.size wr wd):=Lh (by subst hwd;exact Br.drew);clear hwd;refine T 0 hS ?_;refine T 1 hS ?_;refine T 2 hS ?_;refine T 3 hS ?_;refine T 4 hS ?_;refine U 5 fun K' hK=> ?_
      go_simp;go_at_call 203;refine(HPg.out _).mono ?_;rintro e w3 ⟨rfl,hb3⟩;have HB3:=Lh (bQ HBd.out hb3);have hS3:=HS.out w3 HB3.out;clear hb3 hS;refine V hK hS3 ?_;clear hK K';refine T 6 hS3 ?_;refine T 7 hS3 ?_;refine T 8 hS3 ?_;refine T 9 hS3 ?_;refine T 10 hS3 ?_;refine T 11 hS3 ?_;refine T 12 hS3 ?_;refine T 13 hS3 ?_;refine T 14 hS3 ?_;refine T 15 hS3 ?_;refine T 16 hS3 ?_;refine T 17 hS3 ?_;refine T 18 hS3 ?_;refine T 19 hS3 ?_;refine T 20 hS3 ?_;refine T 21 hS3 ?_;refine T 22 hS3 ?_;refine T 23 hS3 ?_;refine T 24 hS3 ?_;refine T 25 hS3 ?_;refine T 26 hS3 ?_;refine wpAnyH_done (by kernel_rfl) ?_ _;have HB4:=Lh (bQ HBw.out HB3.out);clear HS HPg;have HE:=Lh (bQ HB.out HB4.out);go_wp2
      first|exact⟨.inr ⟨HNo.out,rfl⟩,HE.out⟩|(go_ret;exact⟨.inr ⟨HNo.out,rfl⟩,HE.out⟩)
     ·have HGd:Hid (good x.sp (k+1+1)):=Lh (hlt1 hlt hpm);clear hlt1 hlt2 hgs hnp hok hpm;have HS:Hid (∀V,Below wr.heap.size wr V→(fun V=>V.cell? ⟨xb,21,none⟩=some (.slice (some ⟨g,off,none⟩) x.sp.length sc)∧V.cell? ⟨g,off+(k+1)*4,none⟩=some (.int .u32 pa)∧V.cell? ⟨g,off+(k+1)*4+1,none⟩=some (.int .u8 pp)∧V.cell? ⟨g,off+(k+1)*4+2,none⟩=some (.bool po)∧V.cell? ⟨g,off+(k+1)*4+3,none⟩=some (.string pt)∧V.cell? ⟨g,off+k*4,none⟩=some (.int .u32 b)∧True) V):=Lh fun V hV=>⟨(HC.out V (bQ HBw.out hV)).2.2.2.2.2.1,cellK hV p0,cellK hV p1,cellK hV p2,cellK hV p3,cellK hV hb,trivial⟩
      go_wp2_with fail;clear c0 c1 c2 c3 c4 c21 c22 p0 p1 p2 p3;refine B (fun V=>V.cell? ⟨xb,21,none⟩=some (.slice (some ⟨g,off,none⟩) x.sp.length sc)∧V.cell? ⟨g,off+(k+1)*4,none⟩=some (.int .u32 pa)∧V.cell? ⟨g,off+(k+1)*4+1,none⟩=some (.int .u8 pp)∧V.cell? ⟨g,off+(k+1)*4+2,none⟩=some (.bool po)∧V.cell? ⟨g,off+(k+1)*4+3,none⟩=some (.string pt)∧V.cell? ⟨g,off+k*4,none⟩=some (.int .u32 b)∧True) (HS.out _ Br.drew) ?_;intro wd hwd hS;have HBd:Hid (Below wr.heap.size wr wd):=Lh (by subst hwd;exact Br.drew);clear hwd;refine T 0 hS ?_;refine T 1 hS ?_;refine T 2 hS ?_;refine T 3 hS ?_;refine T 4 hS ?_;refine U 5 fun K' hK=> ?_
      go_simp;go_at_call 203;refine(HPg.out _).mono ?_;rintro e w3 ⟨rfl,hb3⟩;have HB3:=Lh (bQ HBd.out hb3);have hS3:=HS.out w3 HB3.out;clear hb3 hS;refine V hK hS3 ?_;clear hK K';refine T 6 hS3 ?_;refine T 7 hS3 ?_;refine T 8 hS3 ?_;refine T 9 hS3 ?_;refine T 10 hS3 ?_;refine T 11 hS3 ?_;refine T 12 hS3 ?_;refine T 13 hS3 ?_;refine T 14 hS3 ?_;refine T 15 hS3 ?_;refine T 16 hS3 ?_;refine T 17 hS3 ?_;refine T 18 hS3 ?_;refine T 19 hS3 ?_;refine T 20 hS3 ?_;refine T 21 hS3 ?_;refine T 22 hS3 ?_;refine T 23 hS3 ?_;refine T 24 hS3 ?_;refine T 25 hS3 ?_;refine T 26 hS3 ?_;refine wpAnyH_done (by kernel_rfl) ?_ _;have HB4:=Lh (bQ HBw.out HB3.out);obtain⟨d0,d1,d2,d3,d4,_⟩:=hS3;clear HS HPg;cases po with
      |true=>
       have Fin:Hid (ckRelA w1 x.sp (.int .u32 ((owns (x.sp.take (k+1)):Int)+1)) (.int .i64 ((k:Int)+1+1)) w3):=Lh ⟨(k+1)+1,hin,by simp,by rw[HOt.out];simp,HB4.out,HGd.out⟩;go_wp2;exact⟨Fin.out,by simp[intOf];omega⟩
      |false=>
       have Fin:Hid (ckRelA w1 x.sp (.int .u32 (owns (x.sp.take (k+1)))) (.int .i64 ((k:Int)+1+1)) w3):=Lh ⟨(k+1)+1,hin,by simp,by rw[HOt.out];simp,HB4.out,HGd.out⟩;go_wp2;exact⟨Fin.out,by simp[intOf];omega⟩
   ·have hok':(Fp.okB ⟨pa,pp,po,pt⟩)=false:=by simpa using hok
    simp only[hok'] at HPg;have HNo:Hid (¬x.may):=Lh fun hm=>hok (Fp.okB_iff.2 (hnp hm))
    clear hgs hnp hprev hok hok';have HS:Hid (∀V,Below wr.heap.size wr V→(fun V=>V.cell? ⟨xb,21,none⟩=some (.slice (some ⟨g,off,none⟩) x.sp.length sc)∧V.cell? ⟨g,off+i*4,none⟩=some (.int .u32 pa)∧V.cell? ⟨g,off+i*4+1,none⟩=some (.int .u8 pp)∧V.cell? ⟨g,off+i*4+2,none⟩=some (.bool po)∧V.cell? ⟨g,off+i*4+3,none⟩=some (.string pt)∧True) V):=Lh fun V hV=>⟨(HC.out V (bQ HBw.out hV)).2.2.2.2.2.1,cellK hV p0,cellK hV p1,cellK hV p2,cellK hV p3,trivial⟩
    go_wp2_with fail;clear c0 c1 c2 c3 c4 c21 c22 p0 p1 p2 p3;refine B (fun V=>V.cell? ⟨xb,21,none⟩=some (.slice (some ⟨g,off,none⟩) x.sp.length sc)∧V.cell? ⟨g,off+i*4,none⟩=some (.int .u32 pa)∧V.cell? ⟨g,off+i*4+1,none⟩=some (.int .u8 pp)∧V.cell? ⟨g,off+i*4+2,none⟩=some (.bool po)∧V.cell? ⟨g,off+i*4+3,none⟩=some (.string pt)∧True) (HS.out _ Br.drew) ?_;intro wd hwd hS;have HBd:Hid (Below wr.heap.size wr wd):=Lh (by subst hwd;exact Br.drew);clear hwd;refine T 0 hS ?_;refine T 1 hS ?_;refine T 2 hS ?_;refine T 3 hS ?_;refine T 4 hS ?_;refine U 5 fun K' hK=> ?_
    go_simp;go_at_call 203;refine(HPg.out _).mono ?_;rintro e w3 ⟨rfl,hb3⟩;have HB3:=Lh (bQ HBd.out hb3);have hS3:=HS.out w3 HB3.out;clear hb3 hS;refine V hK hS3 ?_;clear hK K';refine T 6 hS3 ?_;refine T 7 hS3 ?_;refine TN 8 hS3 ?_;refine TN 9 hS3 ?_;refine TN 10 hS3 ?_;refine TN 11 hS3 ?_;refine TN 12 hS3 ?_;refine TN 13 hS3 ?_;refine TN 14 hS3 ?_;refine TN 15 hS3 ?_;refine TN 16 hS3 ?_;refine TN 17 hS3 ?_;refine TN 18 hS3 ?_;refine TN 19 hS3 ?_;refine TN 20 hS3 ?_;refine TN 21 hS3 ?_;refine TN 22 hS3 ?_;refine TN 23 hS3 ?_;refine TN 24 hS3 ?_;refine TN 25 hS3 ?_;refine T 26 hS3 ?_;refine wpAnyH_done (by kernel_rfl) ?_ _;have HB4:=Lh (bQ HBw.out HB3.out);clear HS HPg;have HE:=Lh (bQ HB.out HB4.out);go_wp2
    first|exact⟨.inr ⟨HNo.out,rfl⟩,HE.out⟩|(go_ret;exact⟨.inr ⟨HNo.out,rfl⟩,HE.out⟩)
  ·obtain rfl:i=x.sp.length:=by omega
   have ii:¬(x.sp.length:Int)<x.sp.length:=by omega
   have hdm:=HDm.out wr HBw.out;have hg:=good_all hgi;unfold Mn.cells at hdm;have HD:=Lh hdm;have HG:=Lh hg;clear hdm hg hgi;go_wp2_with fail;refine HD.out.mono ?_;rintro e w3 ⟨rfl,hb3⟩;obtain⟨c0,c1,c2,c3,c4,c21,c22,_⟩:=HC.out w3 (bQ HBw.out hb3);have HE:=Lh (bQ HB.out (bQ HBw.out hb3));clear hb3 HD
   by_cases hm0:Gp.mayM x.m=true
   ·have hck:Gp.checkE x.m=0:=by unfold Gp.checkE;rw[if_pos hm0]
    rw[hm0]
    by_cases r0:x.r 0=0
    ·have g0:(x.r 0 == 0)=true:=by rw[r0];rfl
     by_cases o0:x.m.pages<(owns x.sp:Int)
     ·have HN:Hid (¬x.may):=Lh fun h=>by have:=h.own;omega
      have o1:¬(owns x.sp:Int)≤x.m.pages:=by omega
      clear hm0 hck r0;go_wp2
      first|exact⟨.inr ⟨HN.out,rfl⟩,HE.out⟩|(go_ret;exact⟨.inr ⟨HN.out,rfl⟩,HE.out⟩)
     ·have o1:(owns x.sp:Int)≤x.m.pages:=by omega
      by_cases t0:(4096:Int)<x.text.size
      ·have HN:Hid (¬x.may):=Lh fun h=>by have:=h.tx;omega
       have t1:¬(x.text.size:Int)≤4096:=by omega
       clear hm0 hck r0;go_wp2
       first|exact⟨.inr ⟨HN.out,rfl⟩,HE.out⟩|(go_ret;exact⟨.inr ⟨HN.out,rfl⟩,HE.out⟩)
      ·have t1:(x.text.size:Int)≤4096:=by omega
       have HY:Hid (x.m.con=true∨x.text.size=0→x.may):=Lh fun h=>⟨HG.out.1,HG.out.2,hck,r0,by omega,by omega,h⟩
       have HNY:Hid (x.may→x.m.con=true∨x.text.size=0):=Lh fun h=>h.con
       clear hm0 hck r0;generalize hcn:x.m.con=cn at*;cases cn with
       |true=>
        have HZ:=Lh (HY.out (.inl rfl));go_wp2
        first|exact⟨.inl ⟨HZ.out,rfl⟩,HE.out⟩|(go_ret;exact⟨.inl ⟨HZ.out,rfl⟩,HE.out⟩)
       |false=>
        by_cases hte:x.text= {data:= #[]}
        ·have HZ:=Lh (HY.out (.inr (by rw[hte];rfl)));have e0:(x.text == {data:= #[]})=true:=by rw[hte];rfl
         go_wp2
         first|exact⟨.inl ⟨HZ.out,rfl⟩,HE.out⟩|(go_ret;exact⟨.inl ⟨HZ.out,rfl⟩,HE.out⟩)
        ·have HN:Hid (¬x.may):=Lh fun h=>(HNY.out h).elim (fun q=>absurd q (by decide)) fun q=>hte (tl_inj (List.length_eq_zero_iff.1 ((tl_len _).trans q)))
         have e0:x.text.toList.isEmpty=false:=nonempty_str _ (Nat.pos_of_ne_zero fun q=>hte (tl_inj (List.length_eq_zero_iff.1 ((tl_len _).trans q))));clear hte;go_wp2
         first|exact⟨.inr ⟨HN.out,rfl⟩,HE.out⟩|(go_ret;exact⟨.inr ⟨HN.out,rfl⟩,HE.out⟩)
    ·have g0:(x.r 0 == 0)=false:=by rw[beq_eq_false_iff_ne];exact r0
     have HN:Hid (¬x.may):=Lh fun h=>r0 h.r0
     go_wp2
     first|exact⟨.inr ⟨HN.out,rfl⟩,HE.out⟩|(go_ret;exact⟨.inr ⟨HN.out,rfl⟩,HE.out⟩)
   ·have HN:Hid (¬x.may):=Lh fun h=>hm0 (by have:=h.m;unfold Gp.checkE at this;split at this<;>first|assumption|omega)
    rw[Bool.not_eq_true] at hm0;rw[hm0];clear hm0;go_wp2
    first|exact⟨.inr ⟨HN.out,rfl⟩,HE.out⟩|(go_ret;exact⟨.inr ⟨HN.out,rfl⟩,HE.out⟩)
end Go.Proofs.YtehihecknhcggaaGreat.Fz
namespace Go.Proofs.YtehihecknhcggaaGreat
open Go.RowKit
namespace Ca
theorem contains32{w:World}{pv:Value}{xs:List Int}(h:SlV w 41 1 pv xs.length (xs.map (Value.int .u32)))(p:Int):
  Calls Tryz.prog 170 #[pv,.int .u32 p] w fun e w'=>e=.returned (.bool (decide (p∈xs)))∧w=w':=by
 have hix:Calls Tryz.prog 247 #[pv,.int .u32 p] w fun e w'=>(∃i:Int,e=.returned (.int .i64 i)∧ -1≤i∧i≤9223372036854775807∧decide (i≥0)=decide (p∈xs))∧w=w':=by
  have hcap:xs.length≤9223372036854775807:=by
   rcases h.2 with⟨h0,_⟩|⟨g,off,cap,cur,_,_,h1,h2,_⟩
   ·omega
   ·unfold maxLen at h2;omega
  obtain⟨ao,ac,rfl⟩:=h.form;have hcell:∀i:Nat,i<xs.length→∃g off v,ao=some ⟨g,off,none⟩∧xs[i]? =some v∧w.cell? ⟨g,off+i,none⟩=some (.int .u32 v):=fun i hi=>by
   rcases h.2 with⟨h0,_⟩|⟨g,off,cap,cur,hv,hg,_⟩
   ·omega
   ·simp only[Value.slice.injEq] at hv;obtain⟨rfl,_,rfl⟩:=hv;refine⟨g,off,_,rfl,Zg hi, ?_⟩;rw[h.cell i (by omega),List.getElem?_map,Zg hi];rfl
  have HC:=Lh hcell;have HN:Hid (∀i:Int,xs.length≤i→i≤9223372036854775807→True):=Lh fun _ _ _=>trivial
  clear h hcell;go_enter func247,ntmps247;go_wp2;go_loopw [5,8] (fun _ vi wr=>ixRel w xs p vi wr) (fun _ vi _=>xs.length - (intOf vi).toNat)
  case atStart=>exact⟨0,by omega,by go_num,fun k hk=>absurd hk (Nat.not_lt_zero _),rfl⟩
  case round=>
   obtain⟨i,hi,rfl,hno,rfl⟩:=hrel;have HNo:=Lh hno;clear hno
   by_cases hin:i<xs.length
   ·obtain⟨g,off,v,rfl,hv,hc⟩:=HC.out i hin;have HV:=Lh hv;clear hv
    by_cases hx:p=v
    ·have hxe:(p == v)=true:=beq_iff_eq.2 hx;have HM:Hid (decide ((i:Int)≥0)=decide (p∈xs)):=Lh (by
      rw[decide_eq_true (by omega),decide_eq_true];rw[hx];exact List.mem_of_getElem? HV.out)
     clear hx;go_wp2;go_ret;exact⟨⟨i,rfl,by omega,by omega,HM.out⟩,rfl⟩
    ·have hxe:(p == v)=false:=beq_eq_false_iff_ne.2 hx;have HX:=Lh hx;clear hx;go_wp2;refine⟨⟨i+1,by omega,by go_num,fun k hk=> ?_,rfl⟩,by simp[intOf];omega⟩;rcases Nat.lt_or_ge k i with q|q
     ·exact HNo.out k q
     ·obtain rfl:k=i:=by omega
      intro e;rw[HV.out] at e;exact HX.out (Option.some.inj e).symm
   ·have HM:Hid (decide ((-1:Int)≥0)=decide (p∈xs)):=Lh (by
     rw[decide_eq_false (by omega),decide_eq_false];intro hm;obtain⟨k,hk⟩:=List.getElem?_of_mem hm;exact HNo.out k (by have:=(List.getElem?_eq_some_iff.1 hk).1;omega) hk)
    go_wp2;go_ret;exact⟨⟨-1,rfl,by omega,by omega,HM.out⟩,rfl⟩
 have H:=Lh hix;clear hix h;go_enter func170,ntmps170;go_wp2_with fail;refine H.out.mono ?_;rintro e w1 ⟨⟨i,rfl,i0,i1,hd⟩,rfl⟩;have HD:=Lh hd;clear hd;go_wp2;go_ret;exact⟨by rw[HD.out];rfl,rfl⟩
theorem clt{w:World}{b i:Nat}{v:Value}(h:w.cell? ⟨b,i,none⟩=some v):b<w.heap.size:=by
 unfold World.cell? at h;cases hg:w.heap[b]? with
 |none=>rw[hg] at h;cases h
 |some _=>exact lQ hg
def ManP(w:World)(g:Option Gr)(e:Ending)(w':World):Prop:=
 ∃ev pv,e=.returned (.tuple #[.agg ((gOf g).m.cells ev pv),.bool g.isSome])∧MnAt w' ev pv (gOf g).m∧(∀b,ev.ownBlock=some b∨pv.ownBlock=some b→w.heap.size≤b∧b<w'.heap.size)∧Below w.heap.size w w'
theorem man_cells4{w:World}{b:Nat}{m:Mn}{ev pv:Value}(h:w.heap[b]? =some (.cells (m.cells ev pv) 48 (0,0))):w.cell? ⟨b,0,none⟩=some (.int .u32 m.pages)∧w.cell? ⟨b,1,none⟩=some ev∧w.cell? ⟨b,2,none⟩=some pv∧w.cell? ⟨b,3,none⟩=some (.bool m.con)∧∀j,w.frozen? ⟨b,j,none⟩=false:=by
 refine⟨?_, ?_, ?_, ?_,fun j=> ?_⟩
 ·unfold World.cell?;rw[h];rfl
 ·unfold World.cell?;rw[h];rfl
 ·unfold World.cell?;rw[h];rfl
 ·unfold World.cell?;rw[h];rfl
 ·unfold World.frozen?;rw[h];simp
theorem manifest{w:World}{a:CAt}{hp:Int}{G:Int→Option Gr}{n:Int}(h:Cps w a hp G)(hn:I64 n)(hl:(gOf (G n)).m.ext.length≤2000000∧(gOf (G n)).m.ports.length≤2000000):
  Calls Tryz.prog 166 #[.pointer (some ⟨a.cb,0,none⟩),.int .i64 n] w (ManP w (G n)):=by
 have HFin:Hid (∀V ev pv,MnAt V ev pv (gOf (G n)).m→(∀b,ev.ownBlock=some b∨pv.ownBlock=some b→w.heap.size≤b∧b<V.heap.size)→Below w.heap.size w V→ManP w (G n) (.returned (.tuple #[.agg #[.int .u32 (gOf (G n)).m.pages,ev,pv,.bool (gOf (G n)).m.con],.bool (G n).isSome])) V):=Lh fun V ev pv h1 h2 h3=>⟨ev,pv,rfl,h1,h2,h3⟩
 have HL:=Lh hl;have hb:Below w.heap.size w (w.alloc (.cells #[.int .u32 0,.slice none 0 0,.slice none 0 0,.bool false] 48)):=Ba _;have HM0:=Lh (heap_alloc_new w (.cells #[.int .u32 0,.slice none 0 0,.slice none 0 0,.bool false] 48));have HOf:=Lh (of (h.mod (Mod.of_below hb fun _=>False) fun _ _=>id) hn);have HB:=Lh hb;generalize hg:gOf (G n)=g at*;have HG:=Lh hg;generalize ManP w (G n)=PQ at*;generalize G n=gn at*;clear h hn hl hb hg;go_enter func166,ntmps166;go_wp2_with fail;generalize w.alloc (.cells #[.int .u32 0,.slice none 0 0,.slice none 0 0,.bool false] 48)=w0 at*;refine HOf.out.mono ?_;rintro e w1 ⟨gb,ev,pv,rfl,hb1,hgb,hmn⟩;rw[HG.out] at hgb hmn;have HB1:=Lh hb1;have HMn:=Lh hmn;have g0:w1.cell? ⟨gb,0,none⟩=some (.int .u32 g.m.pages):=by unfold World.cell?;rw[hgb];rfl
 have g1:w1.cell? ⟨gb,1,none⟩=some ev:=by unfold World.cell?;rw[hgb];rfl
 have g2:w1.cell? ⟨gb,2,none⟩=some pv:=by unfold World.cell?;rw[hgb];rfl
 have g3:w1.cell? ⟨gb,3,none⟩=some (.bool g.m.con):=by unfold World.cell?;rw[hgb];rfl
 clear hb1 hgb hmn HOf;obtain⟨eo,ec,rfl⟩:=HMn.out.e.form;obtain⟨po,pc,rfl⟩:=HMn.out.p.form;go_wp2_with fail;have hM2:(w1.alloc (.cells #[.int .u32 g.m.pages,.slice eo g.m.ext.length ec,.slice po g.m.ports.length pc,.bool g.m.con] 48)).heap[w1.heap.size]? =some (.cells (g.m.cells (.slice eo g.m.ext.length ec) (.slice po g.m.ports.length pc)) 48 (0,0)):=heap_alloc_new w1 _;have hb2:Below w1.heap.size w1 (w1.alloc (.cells #[.int .u32 g.m.pages,.slice eo g.m.ext.length ec,.slice po g.m.ports.length pc,.bool g.m.con] 48)):=Ba _;clear g0 g1 g2 g3;have HMn2:=Lh (HMn.out.below hb2);have HB2:=Lh (bQ HB1.out hb2);obtain⟨mb,hmb⟩:∃y,w1.heap.size=y:=⟨_,rfl⟩;have hmb0:w0.heap.size≤mb:=by rw[←hmb];exact HB1.out.size
 rw[hmb] at hM2⊢;clear hb2;generalize w1.alloc (.cells #[.int .u32 g.m.pages,.slice eo g.m.ext.length ec,.slice po g.m.ports.length pc,.bool g.m.con] 48)=w2 at*;clear hmb HMn HB1;obtain⟨d0,d1,d2,d3,df⟩:=man_cells4 hM2;have HM2:=Lh hM2;refine LB (fun W=>W.cell? ⟨mb,2,none⟩=some (.slice po g.m.ports.length pc)∧True) 9 ⟨d2,trivial⟩ fun wd hwd hS=> ?_
 have e1:wd.cell? ⟨mb,1,none⟩=some (.slice eo g.m.ext.length ec):=by rw[hwd];exact d1
 have HBd:=Lh (show Below w2.heap.size w2 wd by rw[hwd];exact Br.drew);clear hwd d0 d1 d2 d3 df hM2;refine LT 0 hS ?_;refine LT 3 hS ?_;refine LT 4 hS ?_;refine LU 1 fun K hK=> ?_
 go_simp;refine LV hK (fun _=>hS) ?_;clear hK K;have hce:=Cl.clone_ext (cap:=ec) (a:=eo) (n:=g.m.ext.length) (by have:=HMn2.out.e.1;omega) (Cl.at_slv (HMn2.out.below HBd.out).e) HL.out.1 (fun u hu=>by obtain⟨x,_,hx⟩:=List.mem_flatMap.1 hu;simp at hx;rcases hx with rfl|rfl<;>rfl);have HCe:=Lh hce;clear hce e1;refine LU 2 fun K hK=> ?_
 go_simp;go_at_call 195;refine HCe.out.mono ?_;rintro e w5 ⟨v5,rfl,hs5,ho5,hb5⟩;obtain⟨o5,c5,rfl⟩:=hs5.form;have HB5:=Lh (bQ HBd.out hb5);have H5:=Lh (And.intro hs5 ho5);have hS5:w5.cell? ⟨mb,2,none⟩=some (.slice po g.m.ports.length pc)∧True:=⟨hb5.cell (clt hS.1)|>.trans hS.1,trivial⟩;have hcu:=Cl.clone_u16 (cap:=pc) (a:=po) (n:=g.m.ports.length) (by have:=HMn2.out.p.1;omega) (Cl.at_slv (HMn2.out.below HB5.out).p) HL.out.2 (fun u hu=>by obtain⟨z,_,rfl⟩:=List.mem_map.1 hu;rfl);have HCu:=Lh hcu;clear hcu hs5 ho5 hb5 HCe hS;refine LV hK (fun _=>hS5) ?_;clear hK K;refine LT 6 hS5 ?_;refine LU 5 fun K hK=> ?_
 go_simp;go_at_call 196;refine HCu.out.mono ?_;rintro e w6 ⟨v6,rfl,hs6,ho6,hb6⟩;obtain⟨o6,c6,rfl⟩:=hs6.form;have HB6:=Lh (bQ HB5.out hb6);have H6:=Lh (And.intro hs6 ho6);have hz5:=HB5.out.size;have hz6:=hb6.size;have H5':=Lh (And.intro (H5.out.1.keep fun b hb=>hb6.block b (H5.out.2 b hb).2) fun b hb=>(show w2.heap.size≤b∧b<w6.heap.size from⟨Nat.le_trans (HBd.out.size) (H5.out.2 b hb).1,Nat.lt_of_lt_of_le (H5.out.2 b hb).2 hz6⟩));have hS6:w6.cell? ⟨mb,2,none⟩=some (.slice po g.m.ports.length pc)∧True:=⟨hb6.cell (clt hS5.1)|>.trans hS5.1,trivial⟩;have hk6:w6.heap[mb]? =_:=(HB6.out.block _ (lQ HM2.out)).trans HM2.out;obtain⟨d0,d1,d2,d3,df⟩:=man_cells4 hk6;have df1:=df 1;have df2:=df 2;have HK6:=Lh hk6;have HMl:=Lh (lQ HM2.out);clear hs6 ho6 hb6 HCu hS5 H5 hk6 df HM2 HMn2 hz5 hz6;refine LV hK (fun _=>hS6) ?_;clear hK K;refine LU 7 fun K hK=> ?_
 go_simp;have hk7:=heap_setCell_same w6 mb 1 _ _ (.slice o5 g.m.ext.length c5) HK6.out;have hm7:Mod (fun i=>i=mb) w6 (w6.setCell ⟨mb,1,none⟩ (.slice o5 g.m.ext.length c5)):=Mod.setCell (F:=fun i=>i=mb) (Mod.refl _ _) ⟨mb,1,none⟩ (.inl rfl) _;obtain⟨w7,hw7⟩:∃y,w6.setCell ⟨mb,1,none⟩ (.slice o5 g.m.ext.length c5)=y:=⟨_,rfl⟩;rw[hw7] at hk7 hm7⊢;have f0:w7.cell? ⟨mb,0,none⟩=some (.int .u32 g.m.pages):=by unfold World.cell?;rw[hk7];rfl
 have f1:w7.cell? ⟨mb,1,none⟩=some (.slice o5 g.m.ext.length c5):=by unfold World.cell?;rw[hk7];rfl
 have f2:w7.cell? ⟨mb,2,none⟩=some (.slice po g.m.ports.length pc):=by unfold World.cell?;rw[hk7];rfl
 have f3:w7.cell? ⟨mb,3,none⟩=some (.bool g.m.con):=by unfold World.cell?;rw[hk7];rfl
 have ff:w7.frozen? ⟨mb,2,none⟩=false:=by unfold World.frozen?;rw[hk7];simp
 have HK7:=Lh hk7;have HM7:=Lh hm7;have hS7:w7.cell? ⟨mb,2,none⟩=some (.slice po g.m.ports.length pc)∧True:=⟨f2,trivial⟩;clear hw7 hk7 hm7 d0 d1 d2 d3 df1 df2 hS6;refine LV hK (fun _=>hS7) ?_;clear hK K;refine LT 8 hS7 ?_;refine LU 9 fun K hK=> ?_
 go_simp;have hk8:=heap_setCell_same w7 mb 2 _ _ (.slice o6 g.m.ports.length c6) HK7.out;have hm8:Mod (fun i=>i=mb) w6 (w7.setCell ⟨mb,2,none⟩ (.slice o6 g.m.ports.length c6)):=HM7.out.setCell ⟨mb,2,none⟩ (.inl rfl) _;obtain⟨w8,hw8⟩:∃y,w7.setCell ⟨mb,2,none⟩ (.slice o6 g.m.ports.length c6)=y:=⟨_,rfl⟩;rw[hw8] at hk8 hm8⊢;have f0':w8.cell? ⟨mb,0,none⟩=some (.int .u32 g.m.pages):=by unfold World.cell?;rw[hk8];rfl
 have f1':w8.cell? ⟨mb,1,none⟩=some (.slice o5 g.m.ext.length c5):=by unfold World.cell?;rw[hk8];rfl
 have f2':w8.cell? ⟨mb,2,none⟩=some (.slice o6 g.m.ports.length c6):=by unfold World.cell?;rw[hk8];rfl
 have f3':w8.cell? ⟨mb,3,none⟩=some (.bool g.m.con):=by unfold World.cell?;rw[hk8];rfl
 have HM8:=Lh hm8;clear hw8 hk8 hm8 f0 f1 f2 f3 ff hS7;refine LV hK (fun e=>absurd rfl e) ?_;clear hK K;refine E_done (by kernel_rfl) ?_ _;have hb8:w8.heap[w.heap.size]? =some (.cells ((⟨0,[],[],false⟩:Mn).cells (.slice none 0 0) (.slice none 0 0)) 48 (0,0)):=by
  have l0:=lQ HM0.out;have l2:w.heap.size<w2.heap.size:=Nat.lt_of_lt_of_le l0 HB2.out.size;rw[HM8.out.block _ (Nat.lt_of_lt_of_le l2 HB6.out.size) (by omega),HB6.out.block _ l2,HB2.out.block _ l0];exact HM0.out
 have hbel8:Below w.heap.size w w8:=Mod.below (bQ (bQ HB.out HB2.out) HB6.out) HM8.out (by have:=HB.out.size;have:=HB2.out.size;have:=HB6.out.size;omega) fun i _ e=>by have:=HB.out.size;omega
 obtain⟨z0,z1,z2,z3,zf⟩:=man_cells4 hb8;have zf0:=zf 0;have zf1:=zf 1;have zf2:=zf 2;have zf3:=zf 3;have HBe:=Lh hbel8;have hl5:=fun b hb=>(H5'.out.2 b hb)
 have hl6:=fun b hb=>(H6.out.2 b hb)
 have H8:Hid (∀W,Mod (fun i=>i=w.heap.size) w8 W→MnAt W (.slice o5 g.m.ext.length c5) (.slice o6 g.m.ports.length c6) g.m∧∀b,(Value.slice o5 g.m.ext.length c5).ownBlock=some b∨(Value.slice o6 g.m.ports.length c6).ownBlock=some b→w.heap.size≤b∧b<W.heap.size):=Lh fun W hW=>by
  have s8:=HM8.out.size;have sW:=hW.size;have b2:=HB2.out.size;have b1:=lQ HM0.out;have b6:=HBd.out.size;have b7:=HB5.out.size;have hne:∀b,(Value.slice o5 g.m.ext.length c5).ownBlock=some b∨(Value.slice o6 g.m.ports.length c6).ownBlock=some b→w2.heap.size≤b∧b<w6.heap.size:=fun b hb=>by
   rcases hb with q|q
   ·exact hl5 b q
   ·have:=hl6 b q;omega
  have hkeep:∀b,(Value.slice o5 g.m.ext.length c5).ownBlock=some b∨(Value.slice o6 g.m.ports.length c6).ownBlock=some b→W.heap[b]? =w6.heap[b]? :=fun b hb=>by
   have:=hne b hb;have hl:=HMl.out;rw[hW.block b (by omega) (by omega),HM8.out.block b (by omega) (by omega)]
  exact⟨⟨H5'.out.1.keep fun b hb=>hkeep b (.inl hb),H6.out.1.keep fun b hb=>hkeep b (.inr hb)⟩,fun b hb=>by have:=hne b hb;omega⟩
 clear hb8 hbel8 zf hl5 hl6 HB6 HM8 HM0 H5' H6 HB HB2 HBd HB5;go_wp2;have hm9:=((((Mod.refl (fun i=>i=w.heap.size) w8).setCell ⟨w.heap.size,0,none⟩ (.inl rfl) (.int .u32 g.m.pages)).setCell ⟨w.heap.size,1,none⟩ (.inl rfl) (.slice o5 g.m.ext.length c5)).setCell ⟨w.heap.size,2,none⟩ (.inl rfl) (.slice o6 g.m.ports.length c6)).setCell ⟨w.heap.size,3,none⟩ (.inl rfl) (.bool g.m.con);have hend:=HFin.out _ _ _ (H8.out _ hm9).1 (H8.out _ hm9).2 (Mod.below HBe.out hm9 HBe.out.size fun i _ e=>by omega)
 first|exact hend|(refine bodyPost_ret (v:=.tuple #[.agg #[.int .u32 g.m.pages,.slice o5 g.m.ext.length c5,.slice o6 g.m.ports.length c6,.bool g.m.con],.bool gn.isSome]) (by simp[results,Tryz.results166,go_sem, *]) rfl ?_;exact hend)
end Ca
end Go.Proofs.YtehihecknhcggaaGreat
namespace Go.Proofs.YtehihecknhcggaaGreat.Fz
open Go.RowKit Word
def frSp(A:List Pg)(own:List Int):List Fp:=(Pag.addrs A).map fun x=>⟨x,Sp.permV A x,decide (x∈own),Sp.getS A x 256 0⟩
def frOf(m:Mn)(E:En):Fr:=⟨m,fun i=>E.arg i,E.pc,frSp E.A E.own,E.text⟩
theorem frSp_len(A:List Pg)(own:List Int):(frSp A own).length=A.length:=by unfold frSp Pag.addrs;rw[List.length_map,List.length_map]
structure FrAt(w0:World)(b:Nat)(x:Fr)(ev pv sv:Value)(w:World):Prop where
 box:FBox w b x ev pv sv
 inn:FrIn w x ev pv sv
 own:∀g,ev.ownBlock=some g∨pv.ownBlock=some g∨sv.ownBlock=some g→w0.heap.size≤g∧g<w.heap.size∧g≠b
 b0:w0.heap.size≤b
 bel:Below w0.heap.size w0 w
section
variable {w0 w w':World} {b:Nat} {x y:Fr} {ev pv sv:Value}
theorem FrAt.below(h:FrAt w0 b x ev pv sv w)(hb:Below w.heap.size w w'):FrAt w0 b x ev pv sv w':=
 ⟨h.box.keep (Mod.of_below hb fun _=>False) id,h.inn.below hb,fun g hg=>⟨(h.own g hg).1,Nat.lt_of_lt_of_le (h.own g hg).2.1 hb.size,(h.own g hg).2.2⟩,h.b0,bQ h.bel hb⟩
theorem FrAt.set(h:FrAt w0 b x ev pv sv w)(j:Nat)(v:Value)(he:(x.arr ev pv sv).setIfInBounds j v=y.arr ev pv sv)(hm:y.m=x.m)(hs:y.sp=x.sp):FrAt w0 b y ev pv sv (w.setCell ⟨b,j,none⟩ v):=by
 have hmo:Mod (fun i=>i=b) w (w.setCell ⟨b,j,none⟩ v):=Mod.setCell (F:=fun i=>i=b) (Mod.refl _ _) ⟨b,j,none⟩ (.inl rfl) _;refine⟨h.box.set j v he,⟨⟨?_, ?_⟩, ?_⟩,fun g hg=>⟨(h.own g hg).1,Nat.lt_of_lt_of_le (h.own g hg).2.1 hmo.size,(h.own g hg).2.2⟩,h.b0,Mod.below h.bel hmo h.bel.size fun i _ e=>by rw[e];exact h.b0⟩
 ·rw[hm];exact h.inn.m.e.keep fun g hg=>hmo.block g (h.own g (.inl hg)).2.1 (h.own g (.inl hg)).2.2
 ·rw[hm];exact h.inn.m.p.keep fun g hg=>hmo.block g (h.own g (.inr (.inl hg))).2.1 (h.own g (.inr (.inl hg))).2.2
 ·rw[hs];exact h.inn.s.keep fun g hg=>hmo.block g (h.own g (.inr (.inr hg))).2.1 (h.own g (.inr (.inr hg))).2.2
end
theorem FrAt.app{w0 W:World}{b q:Nat}{x:Fr}{ev pv:Value}{so:Option Addr}{sc:Nat}{p:Fp}(h:FrAt w0 b x ev pv (.slice so x.sp.length sc) W)(hq:W.heap[q]? =some (.cells #[.int .u32 p.addr,.int .u8 p.perm,.bool p.own,.string p.text] 151 (0,0)))(hl:x.sp.length≤70000)(hap:∀g,(Value.slice so x.sp.length sc).ownBlock=some g→ev.ownBlock≠some g∧pv.ownBlock≠some g):
  ∃s' c' W',(Builtin.append_ #[50,50] 50 #[.slice so x.sp.length sc,.slice (some ⟨q,0,none⟩) 1 1]).run Tryz.prog W=.ok (.slice s' (x.sp.length+1) c') W'∧FrAt w0 b {x with sp:=x.sp++[p]} ev pv (.slice s' (x.sp.length+1) c') (W'.setCell ⟨b,21,none⟩ (.slice s' (x.sp.length+1) c'))∧W'.cell? ⟨b,21,none⟩=some (.slice so x.sp.length sc)∧W'.frozen? ⟨b,21,none⟩=false∧Mod (fun k=>(Value.slice so x.sp.length sc).ownBlock=some k) W W'∧((Value.slice s' (x.sp.length+1) c').ownBlock=(Value.slice so x.sp.length sc).ownBlock∨∃k,(Value.slice s' (x.sp.length+1) c').ownBlock=some k∧W.heap.size≤k):=by
 obtain⟨i0,hi0,hz0,hz1,hz2⟩:=info_parts info_page;obtain⟨v10,w10,hrun,r10,m10,o10⟩:=h.inn.s.append (P:=Tryz.prog) (t:=50) (bytes:=24) 50 i0 _ Tryz.underlying50 hi0 hz0 hz1 hz2 rfl (by decide) ⟨q,0,none⟩ 1 1 [.int .u32 p.addr,.int .u8 p.perm,.bool p.own,.string p.text] (by decide) rfl (fun j u hu=>by rw[Addr.add_lit];unfold World.cell?;simp only[Nat.zero_add];rw[hq];simpa using hu) (fun u hu=>by simp at hu;rcases hu with rfl|rfl|rfl|rfl<;>rfl) (by unfold maxLen;omega) (by omega);obtain⟨s10,k10,rfl⟩:=r10.form;have ho:=h.own;have hnb:¬(Value.slice so x.sp.length sc).ownBlock=some b:=fun e=>(ho b (.inr (.inr e))).2.2 rfl
 have h10:FBox w10 b x ev pv (.slice so x.sp.length sc):=h.box.keep m10 hnb;refine⟨s10,k10,w10,hrun, ?_,h10.cell 21 _ rfl,h10.thaw 21,m10,o10⟩;have hm:Mod (fun j=>j=b) w10 (w10.setCell ⟨b,21,none⟩ (.slice s10 (x.sp.length+1) k10)):=Mod.setCell (F:=fun j=>j=b) (Mod.refl _ _) ⟨b,21,none⟩ (.inl rfl) _;have hlb:=lQ h.box;have hb0:=h.b0;have ho':∀g,(Value.slice s10 (x.sp.length+1) k10).ownBlock=some g→w0.heap.size≤g∧g<w10.heap.size∧g≠b:=fun g hg=>by
  obtain⟨g',e1,e2⟩:=r10.lt (by omega);rw[hg] at e1;cases e1;rcases o10 with q'|⟨z,q',qz⟩
  ·rw[q'] at hg;exact⟨(ho g (.inr (.inr hg))).1,e2,(ho g (.inr (.inr hg))).2.2⟩
  ·rw[q'] at hg;cases hg;exact⟨by omega,e2,by omega⟩
 have hk:∀g,ev.ownBlock=some g∨pv.ownBlock=some g→(w10.setCell ⟨b,21,none⟩ (.slice s10 (x.sp.length+1) k10)).heap[g]? =W.heap[g]? :=fun g hg=>by
  have h1:W.heap.size≤w10.heap.size:=m10.size;have h2:=ho g (hg.imp id .inl);rw[hm.block g (by omega) h2.2.2];exact m10.block g h2.2.1 fun e=>by
   rcases hg with z|z
   ·exact(hap g e).1 z
   ·exact(hap g e).2 z
 refine⟨h10.set 21 _ rfl,⟨⟨h.inn.m.e.keep fun g hg=>hk g (.inl hg),h.inn.m.p.keep fun g hg=>hk g (.inr hg)⟩, ?_⟩,fun g hg=> ?_,hb0, ?_⟩
 ·have:(x.sp++[p]).length=x.sp.length+1:=by simp
  show SlV _ _ 4 _ (x.sp++[p]).length (pgC (x.sp++[p]))
  rw[this,pgC_app];exact r10.keep fun g hg=>hm.block g (ho' g hg).2.1 (ho' g hg).2.2
 ·have h1:W.heap.size≤w10.heap.size:=m10.size;have h2:=hm.size;rcases hg with z|z|z
  ·have:=ho g (.inl z);omega
  ·have:=ho g (.inr (.inl z));omega
  ·have:=ho' g z;omega
 ·exact Mod.below (Mod.below h.bel m10 h.bel.size fun i _ e=>(ho i (.inr (.inr e))).1) hm (by have:=h.bel.size;have:=m10.size;omega) fun i _ e=>by rw[e];exact hb0
theorem SlV.modN{w w':World}{e:TypeId}{z n b:Nat}{v:Value}{xs:List Value}(h:SlV w e z v n xs)(hm:Mod (fun k=>k=b) w w')(hb:∀g,v.ownBlock=some g→g≠b):SlV w' e z v n xs:=by
 rcases h.2 with⟨h1,a,rfl⟩|⟨g,off,cap,cur,rfl,hg,_⟩
 ·exact⟨h.1,.inl ⟨h1,a,rfl⟩⟩
 ·exact h.keep fun g' hg'=>by
   cases hg';exact hm.block g (lQ hg) (hb g rfl)
theorem row_own{W:World}{base:Nat}{e:TypeId}{size:Nat}{v:Value}{k:Nat}{xs:List Value}(h:W.ownsRow base e size v k xs):∀g,v.ownBlock=some g→base≤g:=by
 rcases h.2 with⟨rfl,_⟩|⟨g',cap,cur,rfl,g1,_⟩
 ·intro g hg;cases hg
 ·intro g hg;cases hg;exact g1
def x0(m:Mn)(E:En)(i:Nat):Fr:= {zeroFr with m:=m,pc:=E.pc,text:=E.text,r:=fun j=>if j<i then E.arg j else 0}
def tkRel(w:World)(b:Nat)(m:Mn)(E:En)(ev pv:Value)(vi:Value)(wr:World):Prop:=∃i:Nat,i≤16∧vi=.int .i64 i∧FrAt w b (x0 m E i) ev pv nl wr
def tpRel(w v2:World)(b:Nat)(m:Mn)(E:En)(ev pv:Value)(vi:Value)(wr:World):Prop:=∃(i:Nat) (sv:Value),i≤E.A.length∧vi=.int .i64 i∧FrAt w b {x0 m E 16 with sp:=(frSp E.A E.own).take i} ev pv sv wr∧(∀g,sv.ownBlock=some g→v2.heap.size≤g)∧Mod (fun k=>k=b) v2 wr
def TakeP(w:World)(m:Mn)(E:En)(r:Ending)(w':World):Prop:=
 ∃ev pv sv,r=.returned (.tuple #[.agg ((frOf m E).arr ev pv sv),.int .i64 0])∧FrIn w' (frOf m E) ev pv sv∧(∀g,ev.ownBlock=some g∨pv.ownBlock=some g∨sv.ownBlock=some g→w.heap.size≤g∧g<w'.heap.size)∧Below w.heap.size w w'
theorem x0_arr(m:Mn)(E:En)(sp:List Fp)(ev pv sv:Value):({x0 m E 16 with sp:=sp}:Fr).arr ev pv sv=(frOf m E).arr ev pv sv:=
 arr_cong (x:= {x0 m E 16 with sp:=sp}) (y:=frOf m E) rfl rfl (fun j hj=>by show(if j<16 then E.arg j else 0)=E.arg j;rw[if_pos hj]) rfl rfl _ _ _
theorem takeF{w:World}{a:KAt}{K:Kn}{e:EAt}{E:En}(h:KE w a K e E)(hn:1≤E.num∧E.num≤8)(hk:E.kind=2){G:Gr}(hg:K.g E.num=some G)(hml:G.m.ext.length≤2000000∧G.m.ports.length≤2000000)(hok:(frOf G.m E).ok)(hmay:(frOf G.m E).may):
  Calls Tryz.prog 73 #[.pointer (some ⟨a.kb,0,none⟩),.pointer (some ⟨e.eb,0,none⟩)] w (TakeP w G.m E):=by
 have HFin:Hid (∀V ev pv sv,FrIn V (frOf G.m E) ev pv sv→(∀g,ev.ownBlock=some g∨pv.ownBlock=some g∨sv.ownBlock=some g→w.heap.size≤g∧g<V.heap.size)→Below w.heap.size w V→TakeP w G.m E (.returned (.tuple #[.agg ((frOf G.m E).arr ev pv sv),.int .i64 0])) V):=Lh fun V ev pv sv h1 h2 h3=>⟨ev,pv,sv,rfl,h1,h2,h3⟩
 have HKn:=Lh fun V (hV:Below w.heap.size w V)=>h.kn.below hV
 have HEn:=Lh fun V (hV:Below w.heap.size w V)=>h.en.below hV
 have HMan:Hid (∀V,Below w.heap.size w V→Calls Tryz.prog 166 #[.pointer (some ⟨a.c.cb,0,none⟩),.int .i64 E.num] V (Ca.ManP V (some G))):=Lh fun V hV=>by
  have:=Ca.manifest (h.kn.below hV).caps (n:=E.num) ⟨by omega,by omega⟩ (by rw[hg];exact hml);rw[hg] at this;exact this
 have HOk:=Lh hok;have HMay:=Lh hmay;have hkd:(E.kind != 2)=false:=by rw[hk];rfl
 have hfd:=fun V=>kindOf E.kind E.code E.why V
 obtain⟨n,hn'⟩:∃y,w.heap.size=y:=⟨_,rfl⟩;have hz:FBox (w.alloc (.cells (zeroFr.arr nl nl nl) 52)) w.heap.size zeroFr nl nl nl:=heap_alloc_new w _;have hbz:Below w.heap.size w (w.alloc (.cells (zeroFr.arr nl nl nl) 52)):=Ba _;have HZ:=Lh (And.intro hz hbz);have HN:=Lh hn';generalize TakeP w G.m E=PQ at*;rw[hn'] at HZ;clear h hn hk hg hml hok hmay hz hbz;go_enter func73,ntmps73;go_wp2_with fail;refine(fun(F:∀V,FBox V n zeroFr nl nl nl→Below n w V→Calls Tryz.prog _ _ V _)=>F _ HZ.out.1 HZ.out.2) ?_;intro w1 hz1 hb1;have hbw:Below w.heap.size w w1:=by rw[HN.out];exact hb1
 have HB1:=Lh hbw;have HZ1:=Lh hz1;clear hz1 hb1 hbw HZ hn';refine(Kl.caps (HKn.out _ HB1.out)).mono ?_;rintro r w2 ⟨rfl,rfl⟩;go_wp2_with fail;refine(Ev.num (HEn.out _ HB1.out)).mono ?_;rintro r w2 ⟨rfl,rfl⟩;go_wp2_with fail;refine(HMan.out _ HB1.out).mono ?_;rintro r w2 ⟨ev,pv,rfl,hm2,ho2,hb2⟩;have hm2:MnAt w2 ev pv G.m:=hm2;obtain⟨eo,ec,rfl⟩:=hm2.e.form;obtain⟨po,pc,rfl⟩:=hm2.p.form;have hb3:Below w2.heap.size w2 (w2.alloc (.cells #[.int .u32 G.m.pages,.slice eo G.m.ext.length ec,.slice po G.m.ports.length pc,.bool G.m.con] 48)):=Ba _;have hx3:(w2.alloc (.cells #[.int .u32 G.m.pages,.slice eo G.m.ext.length ec,.slice po G.m.ports.length pc,.bool G.m.con] 48)).heap[w2.heap.size]? =some (.cells (G.m.cells (.slice eo G.m.ext.length ec) (.slice po G.m.ports.length pc)) 48 (0,0)):=heap_alloc_new w2 _;have h3:FrAt w n {zeroFr with m:=G.m} (.slice eo G.m.ext.length ec) (.slice po G.m.ports.length pc) nl w2→True:=fun _=>trivial
 have HM2:=Lh (And.intro hm2 ho2);have HB2:=Lh (bQ HB1.out hb2);have HBb:=Lh hb2;clear hm2 ho2 hb2 h3;unfold gOf;simp only[Option.getD_some,Mn.cells];go_wp2_with fail;obtain⟨w3,hw3⟩:∃y,w2.alloc (.cells #[.int .u32 G.m.pages,.slice eo G.m.ext.length ec,.slice po G.m.ports.length pc,.bool G.m.con] 48)=y:=⟨_,rfl⟩;obtain⟨mb,hmb⟩:∃y,w2.heap.size=y:=⟨_,rfl⟩;rw[hw3] at hb3 hx3⊢;rw[hmb] at hx3⊢;have HMb:=Lh (And.intro hmb (Nat.lt_of_lt_of_le (lQ HZ1.out) HBb.out.size));have HX3:=Lh hx3;have HB3:=Lh hb3;clear hw3 hmb hx3 hb3 hm2;refine(Ev.state (HEn.out _ (bQ HB2.out HB3.out))).mono ?_;rintro r w4 ⟨rfl,hb4⟩;have HB4:=Lh hb4;clear hb4;go_wp2_with fail;have HS:Hid (∀V,Below w3.heap.size w3 V→V.cell? ⟨mb,0,none⟩=some (.int .u32 G.m.pages)∧V.cell? ⟨mb,1,none⟩=some (.slice eo G.m.ext.length ec)∧V.cell? ⟨mb,2,none⟩=some (.slice po G.m.ports.length pc)∧V.cell? ⟨mb,3,none⟩=some (.bool G.m.con)∧True):=Lh fun V hV=>by
  have q:=(hV.block _ (lQ HX3.out)).trans HX3.out;obtain⟨q0,q1,q2,q3,_⟩:=Ca.man_cells4 q;exact⟨q0,q1,q2,q3,trivial⟩
 have HAll:Hid (∀V,Below w3.heap.size w3 V→Env V e E∧FBox V n zeroFr nl nl nl∧Below w.heap.size w V∧MnAt V (.slice eo G.m.ext.length ec) (.slice po G.m.ports.length pc) G.m):=Lh fun V hV=>⟨HEn.out V (bQ HB2.out (bQ HB3.out hV)),HZ1.out.keep (Mod.of_below (bQ HBb.out (bQ HB3.out hV)) fun _=>False) id,bQ HB2.out (bQ HB3.out hV),HM2.out.1.below (bQ HB3.out hV)⟩
 have HOwn:Hid (∀g,(Value.slice eo G.m.ext.length ec).ownBlock=some g∨(Value.slice po G.m.ports.length pc).ownBlock=some g∨nl.ownBlock=some g→n+1≤g∧g<w3.heap.size):=Lh fun g hg=>by
  have h1:=lQ HZ1.out;have h2:=HB3.out.size;rcases hg with q|q|q
  ·have:=HM2.out.2 g (.inl q);omega
  ·have:=HM2.out.2 g (.inr q);omega
  ·cases q
 refine B (fun V=>V.cell? ⟨mb,0,none⟩=some (.int .u32 G.m.pages)∧V.cell? ⟨mb,1,none⟩=some (.slice eo G.m.ext.length ec)∧V.cell? ⟨mb,2,none⟩=some (.slice po G.m.ports.length pc)∧V.cell? ⟨mb,3,none⟩=some (.bool G.m.con)∧True) (HS.out _ HB4.out.drew) fun wd hwd hS=> ?_
 have HBd:Hid (Below w3.heap.size w3 wd):=Lh (by rw[hwd];exact HB4.out.drew);clear hwd HB4 HM2 HBb HZ1 HB3 HB2 HX3;refine T 0 hS ?_;refine T 1 hS ?_;refine T 4 hS ?_;refine U 2 fun K hK=> ?_
 go_simp;go_at_call 76;refine(Ev.cpu (HAll.out _ HBd.out).1).mono ?_;rintro r v1 ⟨rfl,rfl⟩;refine V hK hS ?_;clear hK K;refine U 3 fun K hK=> ?_
 go_simp;go_at_call 78;refine(Cp.pc_ok (HAll.out _ HBd.out).1.cp).mono ?_;rintro r v1 ⟨rfl,rfl⟩;refine V hK hS ?_;clear hK K;refine U 5 fun K hK=> ?_
 go_simp;go_at_call 103;refine(Ev.console (HAll.out _ HBd.out).1).mono ?_;rintro r v1 ⟨rfl,rfl⟩;refine V hK hS ?_;clear hK K;refine T 6 hS ?_;refine U 7 fun K hK=> ?_
 rw[if_pos (by rfl)];have hAll:=HAll.out wd HBd.out;refine wp_store_mid 52 _ _ rfl n 0 ((x0 G.m E 0).arr (.slice eo G.m.ext.length ec) (.slice po G.m.ports.length pc) nl) rfl rfl hAll.2.1.there (fz_size _ _ _ _) (by kernel_rfl) ?_;obtain⟨hv8,hm8⟩:=hAll.2.1.sets (x0 G.m E 0) (.slice eo G.m.ext.length ec) (.slice po G.m.ports.length pc) nl;generalize World.setCells wd n 0 ((x0 G.m E 0).arr (.slice eo G.m.ext.length ec) (.slice po G.m.ports.length pc) nl).toList=V8 at hv8 hm8⊢;have hbel8:Below w.heap.size w V8:=Mod.below hAll.2.2.1 hm8 hAll.2.2.1.size fun i _ q=>by have:=HN.out;omega
 have hown:∀g,(Value.slice eo G.m.ext.length ec).ownBlock=some g∨(Value.slice po G.m.ports.length pc).ownBlock=some g∨nl.ownBlock=some g→w.heap.size≤g∧g<V8.heap.size∧g≠n:=fun g hg=>by
  have:=HOwn.out g hg;have:=HN.out;have:=HBd.out.size;have:=hm8.size;omega
 have hkeep:∀g,(Value.slice eo G.m.ext.length ec).ownBlock=some g∨(Value.slice po G.m.ports.length pc).ownBlock=some g∨nl.ownBlock=some g→V8.heap[g]? =wd.heap[g]? :=fun g hg=>hm8.block g (Nat.lt_of_lt_of_le (HOwn.out g hg).2 HBd.out.size) (hown g hg).2.2
 have HR0:Hid (tkRel w n G.m E (.slice eo G.m.ext.length ec) (.slice po G.m.ports.length pc) (.int .i64 0) V8):=Lh ⟨0,by omega,rfl,hv8,⟨⟨hAll.2.2.2.e.keep fun g hg=>hkeep g (.inl hg),hAll.2.2.2.p.keep fun g hg=>hkeep g (.inr (.inl hg))⟩,SlV.nil _ _ _⟩,hown,Nat.le_of_eq HN.out,hbel8⟩;have hmn:∀i,V8.cell? ⟨mb,i,none⟩=wd.cell? ⟨mb,i,none⟩:=fun i=>World.cell?_of_block (w:=wd) (hm8.block mb (by have:=HMb.out;have:=Ca.clt hS.1;omega) (by have:=HMb.out;omega))
 obtain⟨s0,s1,s2,s3,_⟩:=hS;refine V hK ⟨(hmn 0).trans s0,(hmn 1).trans s1,(hmn 2).trans s2,(hmn 3).trans s3,trivial⟩ ?_;clear hK K;refine wpAnyH_done (by kernel_rfl) ?_ _;clear hAll hv8 hm8 hbel8 hown hkeep hmn s0 s1 s2 s3 HS HBd HAll;go_wp2;go_loopw [8,48] (fun _ vi wr=>tkRel w n G.m E (.slice eo G.m.ext.length ec) (.slice po G.m.ports.length pc) vi wr) (fun _ vi _=>16 - (intOf vi).toNat)
 case atStart=>exact HR0.out
 case round=>
  clear HR0;obtain⟨i,hi,rfl,hx⟩:=hrel
  by_cases hin:i<16
  ·have ii:(i:Int)<16:=by omega
   have i0:(0:Int)≤(i:Int):=by omega
   have b1:wr.cell? ⟨n,4+i,none⟩=some (.int .u32 ((x0 G.m E i).r i)):=hx.box.cell (4+i) _ (arr_getr _ _ _ _ i hin);have f1:=hx.box.thaw (4+i);have HA:=Lh (Ev.arg (HEn.out _ hx.bel) (i:Int) (by omega) (by omega));have g4:FrAt w n (x0 G.m E (i+1)) (.slice eo G.m.ext.length ec) (.slice po G.m.ports.length pc) nl (wr.setCell ⟨n,4+i,none⟩ (.int .u32 (E.arg i))):=hx.set (4+i) _ (by
    rw[arr_reg _ _ _ _ i hin];refine arr_cong (x:= {x0 G.m E i with r:=upd (x0 G.m E i).r i (E.arg i)}) (y:=x0 G.m E (i+1)) rfl rfl (fun j hj=> ?_) rfl rfl _ _ _
    show(if j=i then E.arg i else if j<i then E.arg j else 0)=if j<i+1 then E.arg j else 0
    by_cases q:j=i
    ·subst q;rw[if_pos rfl,if_pos (by omega)]
    ·rw[if_neg q]
     by_cases q2:j<i
     ·rw[if_pos q2,if_pos (by omega)]
     ·rw[if_neg q2,if_neg (by omega)]) rfl rfl
   have Fin:Hid (tkRel w n G.m E (.slice eo G.m.ext.length ec) (.slice po G.m.ports.length pc) (.int .i64 ((i:Int)+1)) (wr.setCell ⟨n,4+i,none⟩ (.int .u32 (E.arg i)))):=Lh ⟨i+1,by omega,by go_num,g4⟩;clear g4 hx;go_wp2_with fail;refine HA.out.mono ?_;rintro r v1 ⟨rfl,rfl⟩;go_wp2;exact⟨Fin.out,by simp[intOf];omega⟩
  ·obtain rfl:i=16:=by omega
   have HX:=Lh hx;clear hx;go_wp2_with fail;refine(Ev.own (HEn.out _ HX.out.bel)).mono ?_;rintro r v1 ⟨ov,rfl,hov,hovb,hb1⟩;have HOb:Hid (∀g,ov.ownBlock=some g→g≠n):=Lh fun g hg=>by have:=hovb g hg;have:=lQ HX.out.box;omega
   have HX1:=Lh (HX.out.below hb1);have HOv:=Lh fun V (hV:Below v1.heap.size v1 V)=>(show Sl.Lst V ov E.own from hov.below hV)
   clear hov hovb hb1 HX;go_wp2_with fail;refine(Ev.space (HEn.out _ HX1.out.bel)).mono ?_;rintro r v2 ⟨rfl,rfl⟩;go_wp2_with fail;refine(Pag.pages (HEn.out _ HX1.out.bel).sp).mono ?_;rintro r v2 ⟨rv,rfl,hrow,hb2⟩;have hqn:∀g,rv.ownBlock=some g→g≠n:=fun g hg=>by have:=row_own hrow g hg;have:=lQ HX1.out.box;omega
   have hpl:=SlV.of_own hrow;obtain⟨qo,qc,rfl⟩:=hpl.form;have HX2:=Lh (HX1.out.below hb2);have HPl:=Lh fun V (hV:Mod (fun k=>k=n) v2 V)=>SlV.modN hpl hV hqn
   have HOv2:=Lh fun V (hV:Mod (fun k=>k=n) v2 V)=>(show Sl.Lst V ov E.own from SlV.modN (HOv.out v2 hb2) hV HOb.out)
   have HR1:Hid (tpRel w v2 n G.m E (.slice eo G.m.ext.length ec) (.slice po G.m.ports.length pc) (.int .i64 0) v2):=Lh ⟨0,nl,Nat.zero_le _,rfl,by rw[List.take_zero];exact HX2.out,fun g hg=>(nomatch hg),Mod.refl _ _⟩;have HEv:Hid (∀g,(Value.slice eo G.m.ext.length ec).ownBlock=some g∨(Value.slice po G.m.ports.length pc).ownBlock=some g→g<v2.heap.size):=Lh fun g hg=>(HX2.out.own g (hg.imp id .inl)).2.1
   have hal:E.A.length≤4096:=by have:=(HEn.out _ HX1.out.bel).sp.len;omega
   have HAl:=Lh hal;clear hb2 hrow hpl hqn HOv HX1 hal;go_wp2;go_loopw [11,12,13,14,15,64] (fun _ _ _ _ _ vi wr=>tpRel w v2 n G.m E (.slice eo G.m.ext.length ec) (.slice po G.m.ports.length pc) vi wr) (fun _ _ _ _ _ vi _=>E.A.length - (intOf vi).toNat)
   case atStart=>exact HR1.out
   case round=>
    clear HR1;obtain⟨i,sv,hi,rfl,hx,hsb,hm⟩:=hrel;obtain⟨so,sc,rfl⟩:=hx.inn.s.form
    by_cases hin:i<E.A.length
    ·have ii:(i:Int)<E.A.length:=by omega
     have i0:(0:Int)≤(i:Int):=by omega
     have hpr:=HPl.out wr hm;have hal:(Pag.addrs E.A).length=E.A.length:=by unfold Pag.addrs;rw[List.length_map]
     obtain⟨g,off,rfl,hc⟩:∃g off,qo=some ⟨g,off,none⟩∧wr.cell? ⟨g,off+i,none⟩=some (.int .u32 (Pag.addrs E.A)[i]):=by
      rcases hpr.2 with⟨h0,_⟩|⟨g,off,cap,cur,hv,hg,_⟩
      ·omega
      ·simp only[Value.slice.injEq] at hv;obtain⟨rfl,_,rfl⟩:=hv;refine⟨g,off,rfl, ?_⟩;rw[hpr.cell i (by omega),List.getElem?_map,Zg (by omega)];rfl
     obtain⟨at',hat⟩:∃y,(Pag.addrs E.A)[i]=y:=⟨_,rfl⟩;rw[hat] at hc;have hmem:at'∈Pag.addrs E.A:=by rw[←hat];exact List.getElem_mem _
     have hab:0≤at'∧at'≤4294967295:=by
      obtain⟨pp,hp,e⟩:=List.mem_map.1 hmem;have:=(HEn.out _ hx.bel).sp.ok pp hp;have h1:=this.a0;have h2:=this.a1;rw[←e];omega
     have hfp:(frSp E.A E.own).take (i+1)=(frSp E.A E.own).take i++[⟨at',Sp.permV E.A at',decide (at'∈E.own),Sp.getS E.A at' 256 0⟩]:=by
      rw[List.take_succ_eq_append_getElem (by rw[frSp_len];exact hin)]
      congr 2
      unfold frSp;rw[List.getElem_map,hat]
     have hsl:((frSp E.A E.own).take i).length=i:=by rw[List.length_take,frSp_len];omega
     obtain⟨L,hL⟩:∃L,(frSp E.A E.own).take i=L:=⟨_,rfl⟩;rw[hL] at hfp hx hsl hsb;have HFp:=Lh hfp;have HX:=Lh (And.intro hx hsb);have HM:=Lh hm;have HSl:=Lh hsl;have HSp:=Lh (HEn.out _ hx.bel).sp;have HPm:=Lh (Sp.perm_any HSp.out at' hab.1 hab.2);have HLk:=Lh (Sp.look HSp.out at' 256 hab.1 hab.2);clear hL hal hpr hat hmem hab hfp hx hsb hm hsl HPl;go_wp2_with fail;refine(Ev.space (HEn.out _ HX.out.1.bel)).mono ?_;rintro r v3 ⟨rfl,rfl⟩;go_wp2_with fail;refine HPm.out.mono ?_;rintro r v3 ⟨rfl,rfl⟩;go_wp2_with fail;refine(Ev.space (HEn.out _ HX.out.1.bel)).mono ?_;rintro r v3 ⟨rfl,rfl⟩;go_wp2_with fail;refine HLk.out.mono ?_;rintro r v3 ⟨rfl,hb3⟩;have HX3:=Lh (HX.out.1.below hb3);have HM3:=Lh (HM.out.trans (Mod.of_below hb3 fun _=>False) fun _ _ q=>q.elim);obtain⟨bo,hbo⟩:∃y,decide (at'∈E.own)=y:=⟨_,rfl⟩;obtain⟨pe,hpe⟩:∃y,Sp.permV E.A at'=y:=⟨_,rfl⟩;obtain⟨tx,htx⟩:∃y,Sp.getS E.A at' 256 0=y:=⟨_,rfl⟩;rw[hbo,hpe,htx] at HFp;have HBo:=Lh hbo;rw[hpe,htx];clear hc hb3 HPm HLk HSp hbo hpe htx;go_wp2_with fail;have hs21:v3.cell? ⟨n,21,none⟩=some (.slice so L.length sc):=HX3.out.box.cell 21 _ rfl;have e21:∀j,v3.frozen? ⟨n,j,none⟩=false:=fun j=>HX3.out.box.thaw j
     refine LB (fun V=>V.cell? ⟨n,21,none⟩=some (.slice so L.length sc)∧True) 12 ⟨hs21,trivial⟩ fun wd hwd hS=> ?_
     have HXd:=Lh (show FrAt w n _ _ _ _ wd by rw[hwd];exact HX3.out.below Br.drew);have HMd:=Lh (show Mod (fun k=>k=n) v2 wd by rw[hwd];exact HM3.out.drew);have HCd:Hid (Calls Tryz.prog 170 #[ov,.int .u32 at'] wd fun e w'=>e=.returned (.bool bo)∧wd=w'):=Lh (by
      have:=Ca.contains32 (HOv2.out _ HMd.out) at';rw[HBo.out] at this;exact this)
     have HOb2:=Lh HX.out.2;have iw:IntKind.i64.wrap ((i:Int)+1)=(i:Int)+1:=by have:=HAl.out;rw[IntKind.wrap_i64];omega
     clear hwd hs21 e21 HX3 HM3 HX HM HBo;refine LT 0 hS ?_;refine LT 1 hS ?_;refine LT 2 hS ?_;refine LT 3 hS ?_;refine LT 4 hS ?_;refine LT 5 hS ?_;refine LT 7 hS ?_;refine LU 6 fun K hK=> ?_
     go_simp;go_at_call 170;refine HCd.out.mono ?_;rintro r v4 ⟨rfl,rfl⟩;refine LV hK (fun _=>hS) ?_;clear hK K;refine LT 8 hS ?_;refine LU 9 fun K hK=> ?_
     go_simp;have hpb:=heap_alloc_new wd (.cells #[.int .u32 at',.int .u8 pe,.bool bo,.string tx] 151);have hba:Below wd.heap.size wd (wd.alloc (.cells #[.int .u32 at',.int .u8 pe,.bool bo,.string tx] 151)):=Ba _;have hx5:=HXd.out.below hba;have hm5:=HMd.out.alloc (.cells #[.int .u32 at',.int .u8 pe,.bool bo,.string tx] 151);have hS5:=And.intro (hx5.box.cell 21 _ rfl) trivial;generalize wd.alloc (.cells #[.int .u32 at',.int .u8 pe,.bool bo,.string tx] 151)=w5 at*;obtain⟨s',c',w6,hrun,hx6,hc6,hf6,hm6,ho6⟩:=hx5.app (q:=wd.heap.size) (p:=⟨at',pe,bo,tx⟩) hpb (by show L.length≤70000;rw[HSl.out];have:=HAl.out;omega) (fun g hg=>by
      have h1:=HOb2.out g hg;exact⟨fun q=>by have:=HEv.out g (.inl q);omega,fun q=>by have:=HEv.out g (.inr q);omega⟩)
     dsimp only at hrun hc6 hf6 hm6 ho6
     have fin:tpRel w v2 n G.m E (.slice eo G.m.ext.length ec) (.slice po G.m.ports.length pc) (.int .i64 ((i:Int)+1)) (w6.setCell ⟨n,21,none⟩ (.slice s' (L.length+1) c')):=by
      refine⟨i+1,_,hin,by go_num,by rw[HFp.out];exact hx6,fun g hg=> ?_,(hm5.trans hm6 fun k _ q=>.inr (HOb2.out k q)).setCell _ (.inl rfl) _⟩;rcases ho6 with q|⟨k,q,qk⟩
      ·exact HOb2.out g (q.symm.trans hg)
      ·have e:some k=some g:=q.symm.trans hg;cases e;have:=hm5.size;omega
     have Fin:=Lh fin;have hS6:=And.intro hc6 trivial;have HRun:=Lh hrun;clear hpb hba hx5 hm5 hrun hx6 hc6 hm6 ho6 fin HXd HMd HCd HFp;refine LV hK (fun _=>hS5) ?_;clear hK K;refine LU 10 fun K hK=> ?_
     refine Rw.step_run (v:=.slice so L.length sc) (y:=.slice (some ⟨wd.heap.size,0,none⟩) 1 1) rfl (.tmp 83) (.tmp 91) 50 rfl rfl rfl HRun.out ?_;refine LV hK (fun _=>hS6) ?_;clear hK K;refine LT 11 hS6 ?_;have c21:=hS6.1;refine LU 12 fun K hK=> ?_
     go_simp;refine LV hK (fun e=>absurd rfl e) ?_;clear hK K;refine E_done (by kernel_rfl) ?_ _;clear hS hS5 hS6 c21 hf6 HRun;go_wp2;exact⟨Fin.out,by simp[intOf];omega⟩
    ·obtain rfl:i=E.A.length:=by omega
     rw[show(frSp E.A E.own).take E.A.length=frSp E.A E.own by rw[List.take_of_length_le (by rw[frSp_len];omega)]] at hx;have hbx:FBox wr n (frOf G.m E) (.slice eo G.m.ext.length ec) (.slice po G.m.ports.length pc) (.slice so (frSp E.A E.own).length sc):=by
      have:=hx.box;unfold FBox at this⊢;rw[x0_arr] at this;exact this
     have hxi:FrIn wr (frOf G.m E) (.slice eo G.m.ext.length ec) (.slice po G.m.ports.length pc) (.slice so (frSp E.A E.own).length sc):=⟨hx.inn.m,hx.inn.s⟩;have HCk:=Lh (check hxi HOk.out HMay.out (by show(frSp E.A E.own).length≤70000;rw[frSp_len];have:=HAl.out;omega));have HRa:=Lh hbx.range;have HSi:=Lh (fz_sizeL (frOf G.m E) (.slice eo G.m.ext.length ec) (.slice po G.m.ports.length pc) (.slice so (frSp E.A E.own).length sc));have HX:=Lh hx;have HBx:=Lh hbx;have HXi:=Lh hxi;have ii:¬(E.A.length:Int)<E.A.length:=by omega
     clear hx hbx hxi hsb hm HPl HOv2 hin;go_wp2_with (refine wpList_load_mid rfl 52 _ rfl n 0 rfl _ _ HRa.out Tryz.underlying52 rfl HSi.out ?_;rw[Array.toArray_toList]);refine HCk.out.mono ?_;rintro r v5 ⟨rfl,hb5⟩;have hb5x:=HBx.out.keep (Mod.of_below hb5 fun _=>False) id;have HRb:=Lh hb5x.range;have HTh:=Lh hb5x.there;have HB5:=Lh (And.intro hb5 hb5x);clear hb5 hb5x HRa HCk;go_wp2_with (first
      |(refine wpList_load_mid rfl 52 _ rfl n 0 rfl _ _ HRb.out Tryz.underlying52 rfl HSi.out ?_;rw[Array.toArray_toList])
      |refine wpList_store_mid rfl 52 _ _ rfl n 0 ((frOf G.m E).arr (.slice eo G.m.ext.length ec) (.slice po G.m.ports.length pc) (.slice so (frSp E.A E.own).length sc)) rfl rfl HTh.out (fz_size _ _ _ _) (by kernel_rfl) ?_)
     obtain⟨hv9,hm9⟩:=HB5.out.2.sets (frOf G.m E) (.slice eo G.m.ext.length ec) (.slice po G.m.ports.length pc) (.slice so (frSp E.A E.own).length sc);generalize World.setCells v5 n 0 ((frOf G.m E).arr (.slice eo G.m.ext.length ec) (.slice po G.m.ports.length pc) (.slice so (frSp E.A E.own).length sc)).toList=V9 at hv9 hm9⊢;have hres:=hv9.result;have hmm:Mod (fun k=>k=n) wr V9:=(Mod.of_below HB5.out.1 _).same hm9;have ho:=HX.out.own;have hend:=HFin.out V9 _ _ _ ⟨⟨HXi.out.m.e.keep fun g hg=>hmm.block g (ho g (.inl hg)).2.1 (ho g (.inl hg)).2.2,HXi.out.m.p.keep fun g hg=>hmm.block g (ho g (.inr (.inl hg))).2.1 (ho g (.inr (.inl hg))).2.2⟩,HXi.out.s.keep fun g hg=>hmm.block g (ho g (.inr (.inr hg))).2.1 (ho g (.inr (.inr hg))).2.2⟩ (fun g hg=>⟨(ho g hg).1,Nat.lt_of_lt_of_le (ho g hg).2.1 hmm.size⟩) (Mod.below HX.out.bel hmm HX.out.bel.size fun i _ q=>by rw[q];exact HX.out.b0);exact bodyPost_ret (results_box Tryz.results73 rfl rfl hres) rfl hend
end Go.Proofs.YtehihecknhcggaaGreat.Fz
namespace Go.Proofs.YtehihecknhcggaaGreat.Fz
open Go.RowKit Word
def thStep(A:List Pg)(p:Fp):List Pg:=Sp.putA (Sp.mapA A p.addr 0 p.perm) p.addr 0 p.text
def thA(l:List Fp):List Pg:=l.foldl thStep []
theorem thA_snoc(l:List Fp)(p:Fp):thA (l++[p])=thStep (thA l) p:=by unfold thA;rw[List.foldl_append];rfl
def thE(num:Int)(x:Fr)(A:List Pg):En:=({En.new num x.pc A with r:=Cp.regsK (fun i=>x.r i) 16}:En).put x.text
def ThawP(w:World)(a:KAt)(K:Kn)(num:Int)(x:Fr)(r:Ending)(w':World):Prop:=
 (Ca.grantE K.hp K.hx K.g num x.m x.sp.length≠0∧r=.returned (.tuple #[.pointer none,.int .i64 (Ca.grantE K.hp K.hx K.g num x.m x.sp.length)])∧Below w.heap.size w w')∨
 (Ca.grantE K.hp K.hx K.g num x.m x.sp.length=0∧∃a' e A,r=.returned (.tuple #[.pointer (some ⟨e.eb,0,none⟩),.int .i64 0])∧KStep w w' a K a' {K with g:=Gp.upd K.g num (some ⟨x.m,x.sp.length,0⟩)}∧Env w' e (thE num x A)∧cores A=cores (thA x.sp)∧∀k,e.foot A k→w.heap.size≤k∧a'.tag k=0)
def thRel(w1:World)(sb mb:Nat)(l:List Fp)(vi:Value)(wr:World):Prop:=∃(i:Nat) (A:List Pg),i≤l.length∧vi=.int .i64 i∧Sp.Own w1 wr sb mb A∧cores A=cores (thA (l.take i))
def thr4(w7:World)(e:EAt)(E:En)(r:Nat→Int)(vi:Value)(wr:World):Prop:=∃i:Nat,1≤i∧i≤16∧vi=.int .i64 i∧EStep w7 wr e E e {E with r:=Cp.regsK r i}
theorem grant_num{hp:Int}{hx:List Int}{G:Int→Option Gr}{n:Int}{m:Mn}{pg:Int}(h:Ca.grantE hp hx G n m pg=0):1≤n∧n≤8:=by
 unfold Ca.grantE at h
 split at h
 ·omega
 ·omega
theorem thaw{w:World}{a:KAt}{K:Kn}(h:Knl w a K)(hp1:K.hp≤4096)(hl:K.hx.length≤16){x:Fr}{ev pv sv:Value}(hx:FrIn w x ev pv sv)(ho:x.ok)(hm:x.may)(hlen:x.sp.length≤65536)(hno:∀p,p∈x.sp→p.own=false)(num:Int):
  Calls Tryz.prog 24 #[.pointer (some ⟨a.kb,0,none⟩),.int .i64 num,.agg (x.arr ev pv sv)] w (ThawP w a K num x):=by
 obtain⟨so,sc,rfl⟩:=hx.s.form;obtain⟨eo,ec,rfl⟩:=hx.m.e.form;obtain⟨po,pc,rfl⟩:=hx.m.p.form;have hb:Below w.heap.size w (w.alloc (.cells (x.arr (.slice eo x.m.ext.length ec) (.slice po x.m.ports.length pc) (.slice so x.sp.length sc)) 52)):=Ba _;have hbx:FBox (w.alloc (.cells (x.arr (.slice eo x.m.ext.length ec) (.slice po x.m.ports.length pc) (.slice so x.sp.length sc)) 52)) w.heap.size x (.slice eo x.m.ext.length ec) (.slice po x.m.ports.length pc) (.slice so x.sp.length sc):=heap_alloc_new w _;have HTg:Hid (∀k,w.heap.size≤k→a.tag k=0):=Lh fun k hk=>Decidable.byContradiction fun g=>absurd (h.lt _ g) (by omega)
 obtain⟨w1,hw1⟩:∃y,w.alloc (.cells (x.arr (.slice eo x.m.ext.length ec) (.slice po x.m.ports.length pc) (.slice so x.sp.length sc)) 52)=y:=⟨_,rfl⟩;obtain⟨xb,hxb⟩:∃y,w.heap.size=y:=⟨_,rfl⟩;rw[hw1] at hb hbx;rw[hxb] at hbx;have HXb:=Lh hxb;have HB:=Lh hb;have HKn:=Lh h;have HAll:Hid (∀V,Below w1.heap.size w1 V→FBox V xb x (.slice eo x.m.ext.length ec) (.slice po x.m.ports.length pc) (.slice so x.sp.length sc)∧FrIn V x (.slice eo x.m.ext.length ec) (.slice po x.m.ports.length pc) (.slice so x.sp.length sc)∧Knl V a K):=Lh fun V hV=>⟨hbx.keep (Mod.of_below hV fun _=>False) id,hx.below (bQ hb hV),h.below (bQ hb hV)⟩
 have HCk:=Lh (check (hx.below hb) ho hm (by omega));have HRa:=Lh hbx.range;have HSi:=Lh (fz_sizeL x (.slice eo x.m.ext.length ec) (.slice po x.m.ports.length pc) (.slice so x.sp.length sc));have HO:=Lh ho;have HM:=Lh hm;have HL:=Lh hlen;have HNo:=Lh hno;have HKb:=Lh (And.intro hp1 hl);have HF1:Hid (∀V,Ca.grantE K.hp K.hx K.g num x.m x.sp.length≠0→Below w1.heap.size w1 V→ThawP w a K num x (.returned (.tuple #[.pointer none,.int .i64 (Ca.grantE K.hp K.hx K.g num x.m x.sp.length)])) V):=Lh fun V h1 h2=>.inl ⟨h1,rfl,bQ hb h2⟩
 have HF2:Hid (∀V a' e A,Ca.grantE K.hp K.hx K.g num x.m x.sp.length=0→KStep w V a K a' {K with g:=Gp.upd K.g num (some ⟨x.m,x.sp.length,0⟩)}→Env V e (thE num x A)→cores A=cores (thA x.sp)→(∀k,e.foot A k→w.heap.size≤k∧a'.tag k=0)→ThawP w a K num x (.returned (.tuple #[.pointer (some ⟨e.eb,0,none⟩),.int .i64 0])) V):=Lh fun V a' e A h1 h2 h3 h4 h5=>.inr ⟨h1,a',e,A,rfl,h2,h3,h4,h5⟩
 generalize ThawP w a K num x=PQ at*;clear h hp1 hl hx ho hm hlen hno hb hbx;unfold Fr.arr at hw1⊢;go_enter func24,ntmps24;go_upto_region 3 with(fail);try rw[hw1]
 try rw[hxb]
 clear hw1 hxb;go_wp2_with (refine wpList_load_mid rfl 52 _ rfl xb 0 rfl _ _ HRa.out Tryz.underlying52 rfl HSi.out ?_;rw[Array.toArray_toList]);refine HCk.out.mono ?_;rintro r w2 ⟨rfl,hb2⟩;have HB2:=Lh hb2;clear hb2 HCk HRa HSi;go_wp2_with fail;refine(Sp.o_new _).mono ?_;rintro r w3 ⟨rfl,ho3⟩;obtain⟨sb,hsb⟩:∃y,w2.heap.size+1=y:=⟨_,rfl⟩;obtain⟨mb,hmb⟩:∃y,w2.heap.size=y:=⟨_,rfl⟩;rw[hsb] at ho3⊢;rw[hmb] at ho3;have c21:w3.cell? ⟨xb,21,none⟩=some (.slice so x.sp.length sc):=(HAll.out w3 (bQ HB2.out ho3.bel)).1.cell 21 _ rfl;have HR0:Hid (thRel w2 sb mb x.sp (.int .i64 0) w3):=Lh ⟨0,[],Nat.zero_le _,rfl,ho3,rfl⟩;clear ho3 hsb hmb;go_wp2;go_loopw [10,12,30] (fun vo _ vi wr=>vo=.slice none 0 0∧thRel w2 sb mb x.sp vi wr) (fun _ _ vi _=>x.sp.length - (intOf vi).toNat)
 case atStart=>exact⟨rfl,HR0.out⟩
 case round=>
  clear HR0 c21;obtain⟨rfl,i,A,hi,rfl,how,hco⟩:=hrel
  by_cases hin:i<x.sp.length
  ·have ii:(i:Int)<x.sp.length:=by omega
   have i0:(0:Int)≤(i:Int):=by omega
   have hbw:=bQ HB2.out how.bel;obtain⟨g,off,rfl,hgl,p0,p1,p2,p3⟩:=pg_cells (HAll.out wr hbw).2.1.s hin;have hmem:=List.getElem_mem hin;have hob:=HO.out.s _ hmem;have hmy:=HM.out.pg _ hmem;have hnw:=HNo.out _ hmem;have hsn:thA (x.sp.take (i+1))=thStep (thA (x.sp.take i)) x.sp[i]:=by rw[List.take_succ_eq_append_getElem hin,thA_snoc]
   generalize x.sp[i]=p at*;obtain⟨pa,pp,pw,pt⟩:=p;simp only at p0 p1 p2 p3 hob hmy hnw;subst hnw;obtain⟨m1,m2,m3,m4,_⟩:=hmy;simp only at m1 m2 m3 m4;have iw:IntKind.i64.wrap ((i:Int)+1)=(i:Int)+1:=by have:=HL.out;rw[IntKind.wrap_i64];omega
   have hpb:=heap_alloc_new wr (.cells #[.int .u32 pa,.int .u8 pp,.bool false,.string pt] 151);have hba:Below wr.heap.size wr (wr.alloc (.cells #[.int .u32 pa,.int .u8 pp,.bool false,.string pt] 151)):=Ba _;have HOw:=Lh (how.below hba);have HSn:=Lh hsn;have HCo:=Lh hco;have HPb:=Lh hpb;have HQ:=Lh (show¬Spc.foot sb mb A wr.heap.size from fun q=>absurd (how.spc.lt q) (Nat.lt_irrefl _));have HOb:=Lh (And.intro hob m4);clear hsn hco hpb hba how hbw hmem hob m1 m2 m3 m4 hgl;go_wp2_with fail;obtain⟨wa,hwa⟩:∃y,wr.alloc (.cells #[.int .u32 pa,.int .u8 pp,.bool false,.string pt] 151)=y:=⟨_,rfl⟩;obtain⟨qb,hqb⟩:∃y,wr.heap.size=y:=⟨_,rfl⟩;rw[hwa] at HOw HPb⊢;rw[hqb] at HPb HQ⊢;clear hwa hqb p0 p1 p2 p3;have HMp:=Lh (Sp.map_any HOw.out.spc pa pp HOb.out.1.1.1 HOb.out.1.1.2 HOb.out.1.2.1 HOb.out.1.2.2);refine HMp.out.mono ?_;rintro r wb ⟨rfl,hs4,hm4⟩;have hqm:qb≠mb:=fun e=>HQ.out (.inr (.inl e))
   have hpb4:=(hm4.block _ (lQ HPb.out) hqm).trans HPb.out;have q0:wb.cell? ⟨qb,0,none⟩=some (.int .u32 pa):=by unfold World.cell?;rw[hpb4];rfl
   have q3:wb.cell? ⟨qb,3,none⟩=some (.string pt):=by unfold World.cell?;rw[hpb4];rfl
   have how4:=HOw.out.mod hs4 hm4 (fun k hk=>.inr (.inl hk)) fun k hk=>by
    rcases Sp.foot_mapA hk with rfl|g
    ·exact .inr (Nat.le_refl _)
    ·exact .inl g
   have HSt:=Lh (Sp.set how4.spc pa pt HOb.out.1.1.1 HOb.out.1.1.2 (by have:=HOb.out.2;omega));have HOw4:=Lh how4;have HCo4:Hid (∀B,B=Sp.putA (Sp.mapA A pa wa.heap.size pp) pa 0 pt→cores B=cores (thA (x.sp.take (i+1)))):=Lh fun B hB=>by
    rw[hB,HSn.out];exact Cor.putA (Cor.mapA HCo.out _ _ _ _) _ _ _
   clear hs4 hm4 hqm hpb4 how4 HMp HOw HPb HQ HSn HCo;go_wp2_with fail;refine HSt.out.mono ?_;rintro r wc ⟨rfl,hs5,hm5⟩;have how5:=HOw4.out.mod hs5 hm5 (fun k hk=>.inr (.inr hk)) fun k hk=>.inl (Sp.foot_putA.1 hk)
   have Fin:Hid (thRel w2 sb mb x.sp (.int .i64 ((i:Int)+1)) wc):=Lh ⟨i+1,_,hin,by go_num,how5,HCo4.out _ rfl⟩;clear hs5 hm5 how5 HSt HOw4 HCo4 q0 q3 HOb;go_wp2;exact⟨⟨rfl,Fin.out⟩,by simp[intOf];omega⟩
  ·obtain rfl:i=x.sp.length:=by omega
   rw[List.take_length] at hco;have ii:¬(x.sp.length:Int)<x.sp.length:=by omega
   have hbw:=bQ HB2.out how.bel;have HOw:=Lh how;have HCo:=Lh hco;have HBw:=Lh hbw;clear how hco hbw;go_wp2_with fail;have HS:Hid (∀V,Below w1.heap.size w1 V→V.cell? ⟨xb,0,none⟩=some (.int .u32 x.m.pages)∧V.cell? ⟨xb,1,none⟩=some (.slice eo x.m.ext.length ec)∧V.cell? ⟨xb,2,none⟩=some (.slice po x.m.ports.length pc)∧V.cell? ⟨xb,3,none⟩=some (.bool x.m.con)∧V.cell? ⟨xb,21,none⟩=some (.slice so x.sp.length sc)∧True):=Lh fun V hV=>by
    have q:=(HAll.out V hV).1;exact⟨q.cell 0 _ rfl,q.cell 1 _ rfl,q.cell 2 _ rfl,q.cell 3 _ rfl,q.cell 21 _ rfl,trivial⟩
   have iws:IntKind.i64.wrap ((x.sp.length:Int) - 0)=x.sp.length:=by have:=HL.out;rw[IntKind.wrap_i64];omega
   have iwt:IntKind.i64.wrap (x.sp.length:Int)=x.sp.length:=by have:=HL.out;rw[IntKind.wrap_i64];omega
   have iwu:IntKind.u32.wrap (x.sp.length:Int)=x.sp.length:=by have:=HL.out;rw[IntKind.wrap_u32];omega
   refine B (fun V=>V.cell? ⟨xb,0,none⟩=some (.int .u32 x.m.pages)∧V.cell? ⟨xb,1,none⟩=some (.slice eo x.m.ext.length ec)∧V.cell? ⟨xb,2,none⟩=some (.slice po x.m.ports.length pc)∧V.cell? ⟨xb,3,none⟩=some (.bool x.m.con)∧V.cell? ⟨xb,21,none⟩=some (.slice so x.sp.length sc)∧True) (HS.out _ HBw.out.drew) fun wd hwd hS=> ?_
   have HOd:=Lh (show Sp.Own w2 wd sb mb A by rw[hwd];exact HOw.out.below Br.drew);have HBd:=Lh (show Below w1.heap.size w1 wd by rw[hwd];exact HBw.out.drew);clear hwd HOw HBw;have hall:=HAll.out wd HBd.out;have HGr:=Lh (Kl.grant hall.2.2 HKb.out.1 HKb.out.2 (n:=num) (pg:=(x.sp.length:Int)) (by omega) hall.2.1.m HO.out.m);have HCp:=Lh (Kl.caps hall.2.2);clear hall;refine T 0 hS ?_;refine T 2 hS ?_;refine T 3 hS ?_;refine T 4 hS ?_;refine T 5 hS ?_;refine T 6 hS ?_;refine T 7 hS ?_;refine T 8 hS ?_;refine T 9 hS ?_;refine T 10 hS ?_;refine T 11 hS ?_;refine U 1 fun K' hK=> ?_
   go_simp;go_at_call 23;refine HCp.out.mono ?_;rintro r v1 ⟨rfl,rfl⟩;refine V hK hS ?_;clear hK K';refine U 12 fun K' hK=> ?_
   go_simp;go_at_call 88;refine HGr.out.mono ?_;rintro r w6 (⟨hg,rfl,hb6⟩|⟨hg,rfl,a6,hs6⟩)
   ·have HE:=Lh (HF1.out w6 hg (bQ HBd.out hb6));have hS6:=HS.out w6 (bQ HBd.out hb6);have hgb:(Ca.grantE K.hp K.hx K.g num x.m (x.sp.length:Int) != 0)=true:=bne_iff_ne.2 hg;clear hb6 hg HF1 HF2 HGr;generalize Ca.grantE K.hp K.hx K.g num x.m (x.sp.length:Int)=gE at*;refine V hK hS6 ?_;clear hK K';refine T 13 hS6 ?_;refine wpAnyH_done (by kernel_rfl) ?_ _;clear hS hS6;go_wp2
    first|exact HE.out|(go_ret2;exact HE.out)
   ·have hw0:w.heap.size≤w2.heap.size:=Nat.le_trans HB.out.size HB2.out.size;have hxl:xb<w1.heap.size:=lQ (HAll.out w1 Br).1;have hq6:FBox w6 xb x (.slice eo x.m.ext.length ec) (.slice po x.m.ports.length pc) (.slice so x.sp.length sc):=(HAll.out wd HBd.out).1.keep hs6.mod fun g=>g.1 (HTg.out _ (Nat.le_of_eq HXb.out))
    have hsp6:Spc w6 sb mb A:=HOd.out.spc.keep hs6.mod fun k hk g=>g.1 (HTg.out _ (Nat.le_trans hw0 (HOd.out.base k hk)))
    have hnum:=grant_num hg;have HKs:=Lh ((KStep.of_below HKn.out (bQ HB.out HBd.out)).trans hs6);have HQ6:=Lh hq6;have HNw:=Lh (Ev.new hsp6 num x.pc hnum.1 hnum.2 HO.out.c.1 HO.out.c.2);have HNm:=Lh (show xb<w6.heap.size from Nat.lt_of_lt_of_le hxl (Nat.le_trans HBd.out.size hs6.mod.size));have HZ6:=Lh (show w.heap.size≤w6.heap.size from Nat.le_trans HB.out.size (Nat.le_trans HBd.out.size hs6.mod.size));have HF3:=Lh fun V e A h1 h2 h3 h4=>HF2.out V a6 e A hg h1 h2 h3 h4
    have hS6:w6.cell? ⟨xb,0,none⟩=some (.int .u32 x.m.pages)∧w6.cell? ⟨xb,1,none⟩=some (.slice eo x.m.ext.length ec)∧w6.cell? ⟨xb,2,none⟩=some (.slice po x.m.ports.length pc)∧w6.cell? ⟨xb,3,none⟩=some (.bool x.m.con)∧w6.cell? ⟨xb,21,none⟩=some (.slice so x.sp.length sc)∧True:=⟨hq6.cell 0 _ rfl,hq6.cell 1 _ rfl,hq6.cell 2 _ rfl,hq6.cell 3 _ rfl,hq6.cell 21 _ rfl,trivial⟩;have c20:w6.cell? ⟨xb,20,none⟩=some (.int .u32 x.pc):=hq6.cell 20 _ rfl;clear hw0 hxl hq6 hsp6 hnum hg hs6 HF1 HF2 HGr HCp HS HOd HBd HB HB2 HKn HAll iws iwt iwu hS;refine V hK hS6 ?_;clear hK K';refine T 13 hS6 ?_;refine wpAnyH_done (by kernel_rfl) ?_ _;clear hS6;go_wp2;go_loopw [71] (fun vi wr=>vi=.int .i64 0∧w6=wr) (fun _ _=>0)
    case atStart=>exact⟨rfl,rfl⟩
    case round=>
     obtain⟨rfl,rfl⟩:=hrel;go_wp2_with fail;refine HNw.out.mono ?_;rintro r w7 ⟨e,C,rfl,hen,hcc,hef,hb7⟩;have HEn:=Lh hen;have HE7:=Lh (And.intro hcc (And.intro hef hb7));clear hen hcc hef hb7 HNw c20;go_wp2;go_loopw [17,91] (fun _ vi wr=>vi=.int .i64 0∧w7=wr) (fun _ _ _=>0)
     case atStart=>exact⟨rfl,rfl⟩
     case round=>
      obtain⟨rfl,rfl⟩:=hrel;go_wp2;go_loopw [18] (fun vi wr=>thr4 w7 e (En.new num x.pc C) (fun i=>x.r i) vi wr) (fun vi _=>16 - (intOf vi).toNat)
      case atStart=>exact⟨1,by omega,by omega,by go_num,EStep.refl HEn.out⟩
      case round=>
       obtain⟨i,i1,i16,rfl,hst⟩:=hrel;have hxe:∀k,e.foot C k→k≠xb:=fun k hk=>by have:=HE7.out.2.1 k hk;have:=HNm.out;omega
       have hbx:FBox wr xb x (.slice eo x.m.ext.length ec) (.slice po x.m.ports.length pc) (.slice so x.sp.length sc):=(HQ6.out.keep (Mod.of_below HE7.out.2.2 fun _=>False) id).keep hst.mod fun g=>hxe _ g rfl
       have HSt:=Lh hst;have HBx:=Lh hbx;clear hxe
       by_cases hin:i<16
       ·have ii:(i:Int)<16:=by omega
        have i0:(0:Int)≤(i:Int):=by omega
        have hc:wr.cell? ⟨xb,4+i,none⟩=some (.int .u32 (x.r i)):=hbx.cell (4+i) _ (arr_getr _ _ _ _ i hin);have hbd:=HO.out.r i;clear hst hbx;go_wp2_with fail;refine B (fun V=>V.cell? ⟨xb,4+i,none⟩=some (.int .u32 (x.r i))∧True) ⟨hc,trivial⟩ fun wd hwd hS=> ?_
        have HSd:=Lh (show EStep w7 wd e _ e _ by rw[hwd];exact HSt.out.below Br.drew);have HCp:=Lh (Ev.cpu HSd.out.env);have HSR:=Lh (Cp.setReg_ok HSd.out.env.cp i hin (x.r i) hbd.1 hbd.2);clear hwd hc HSt HBx hbd;refine T 0 hS ?_;refine T 2 hS ?_;refine T 3 hS ?_;refine T 4 hS ?_;refine T 5 hS ?_;refine T 6 hS ?_;refine U 1 fun K' hK=> ?_
        go_simp;go_at_call 76;refine HCp.out.mono ?_;rintro r v1 ⟨rfl,rfl⟩;refine V hK hS ?_;clear hK K';refine U 7 fun K' hK=> ?_
        go_simp;go_at_call 93;refine HSR.out.mono ?_;rintro r v1 ⟨rfl,hcp,hmm⟩;have hst2:=HSd.out.trans (EStep.regs HSd.out.env hcp hmm);have Fin:Hid (thr4 w7 e (En.new num x.pc C) (fun i=>x.r i) (.int .i64 ((i:Int)+1)) v1):=Lh ⟨i+1,by omega,by omega,by go_num,by
         rw[←Cp.regsK_succ _ i hin];exact hst2⟩
        have hS1:v1.cell? ⟨xb,4+i,none⟩=some (.int .u32 (x.r i))∧True:=⟨(World.cell?_of_block (w:=wd) (hmm.block xb (Ca.clt hS.1) fun q=>by have h1:=HE7.out.2.1 _ (.inr (.inl q));have h2:=HNm.out;omega)).trans hS.1,trivial⟩;clear hcp hmm hst2 HSd HCp HSR hS;refine V hK hS1 ?_;clear hK K';refine wpAnyH_done (by kernel_rfl) ?_ _;clear hS1;go_wp2;exact⟨Fin.out,by simp[intOf];omega⟩
       ·obtain rfl:i=16:=by omega
        have c22:wr.cell? ⟨xb,22,none⟩=some (.string x.text):=hbx.cell 22 _ rfl;have HPt:=Lh (Ev.put HSt.out.env x.text (by have:=HM.out.tx;omega));clear hst hbx;go_wp2_with fail;refine HPt.out.mono ?_;rintro r w9 ⟨rfl,hs9⟩;have hst9:=HSt.out.trans hs9;have hb9:Below w6.heap.size w6 w9:=Mod.below HE7.out.2.2 hst9.mod HE7.out.2.2.size fun i _ g=>HE7.out.2.1 i g
        have hend:=HF3.out w9 e C (HKs.out.trans (KStep.of_below HKs.out.k hb9)) hst9.env (HE7.out.1.trans HCo.out) fun k hk=> ?_
        ·clear hst9 hb9 hs9 HSt HBx c22 HPt;have HEnd:=Lh hend;clear hend;go_wp2
         first|exact HEnd.out|(go_ret2;exact HEnd.out)
        ·have h1:=HE7.out.2.1 k hk;exact⟨Nat.le_trans HZ6.out h1,Decidable.byContradiction fun g=>absurd (HKs.out.k.lt k g) (by omega)⟩
end Go.Proofs.YtehihecknhcggaaGreat.Fz
namespace Go.Proofs.YtehihecknhcggaaGreat
open Go.RowKit Word
namespace Rv
section
variable {w:World} {a:RAt} {R:List Rp} {E:En}
theorem cells(h:Renv w a R E):w.cell? ⟨a.eb,0,none⟩=some (.int .i64 E.num)∧w.cell? ⟨a.eb,1,none⟩=some (.pointer (some ⟨a.rb,0,none⟩))∧w.cell? ⟨a.eb,2,none⟩=some (.pointer (some ⟨a.cb,0,none⟩))∧w.cell? ⟨a.eb,3,none⟩=some (.int .u8 E.kind)∧w.cell? ⟨a.eb,4,none⟩=some (.int .u32 E.code)∧w.cell? ⟨a.eb,5,none⟩=some (.int .i64 E.why)∧w.cell? ⟨a.eb,6,none⟩=some a.ow∧w.cell? ⟨a.eb,7,none⟩=some (.string E.text):=
 ⟨h.cell 0 _ rfl,h.cell 1 _ rfl,h.cell 2 _ rfl,h.cell 3 _ rfl,h.cell 4 _ rfl,h.cell 5 _ rfl,h.cell 6 _ rfl,h.cell 7 _ rfl⟩
end
end Rv
open Go.RowKit Word Pag
namespace En
theorem ins_ahead{x:Int}:∀ {l m:List Int},(∀z,z∈l→¬x<z)→ins x (l++m)=l++ins x m
 | [],_,_=>rfl
 |y::l,m,h=>by
  rw[List.cons_append]
  show(if x<y then _ else _)=_
  rw[if_neg (h y (List.mem_cons_self ..)),ins_ahead (l:=l) fun z hz=>h z (List.mem_cons_of_mem _ hz)];rfl
end En
namespace Rv
theorem app_next{w3 wr w':World}{vl v':Value}{built:List Int}{y:Int}(hb:∀b,vl.ownBlock=some b→w3.heap.size≤b∧b<wr.heap.size)(hB:Below w3.heap.size w3 wr)(o:Obj)
  (h1:SlV w' 41 1 v' (built.length+1) (built.map encU++[.int .u32 y])) (h2:Mod (fun k=>vl.ownBlock=some k) (wr.alloc o) w') (h3:v'.ownBlock=vl.ownBlock∨∃k,v'.ownBlock=some k∧(wr.alloc o).heap.size≤k):
  Sl.Lst w' v' (built++[y])∧(∀b,v'.ownBlock=some b→w3.heap.size≤b∧b<w'.heap.size)∧Below w3.heap.size w3 w':=by
 have hz:=hB.size;have hz2:(wr.alloc o).heap.size=wr.heap.size+1:=by simp
 refine⟨?_,fun b hb'=>⟨?_, ?_⟩, ?_⟩
 ·unfold Sl.Lst;rw[List.length_append,List.map_append];exact h1
 ·rcases h3 with g|⟨k,g1,g2⟩
  ·exact(hb b (g▸hb')).1
  ·rw[g1] at hb'
   injection hb' with hb'
   omega
 ·obtain⟨g,q1,q2⟩:=SlV.lt h1 (by omega);rw[q1] at hb'
  injection hb' with hb'
  omega
 ·exact Mod.below (hB.alloc hz o) h2 (by omega) fun i _ hi=>(hb i hi).1
end Rv
end Go.Proofs.YtehihecknhcggaaGreat
