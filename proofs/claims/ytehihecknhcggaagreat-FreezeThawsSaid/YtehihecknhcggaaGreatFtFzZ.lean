/- FzZ, EnvG, FzTw in one text. -/
import Derived.Test.YtehihecknhcggaaGreatFtFzF
import Derived.Test.YtehihecknhcggaaGreatFtEnvW
import Derived.Deep.RegionHeld3
import Derived.Test.YtehihecknhcggaaGreatFtFzD
import Derived.Test.YtehihecknhcggaaGreatFtMade06
import Derived.Test.YtehihecknhcggaaGreatFtInsW
import Derived.Laws.StructEq
import Derived.Test.YtehihecknhcggaaGreatFtZa
set_option linter.unusedVariables false
set_option linter.unusedSimpArgs false
set_option maxRecDepth 100000
set_option maxHeartbeats 16000000
open Go.Proofs.Tryz
namespace Go.Proofs.YtehihecknhcggaaGreat.Fz
open Go.RowKit Word L22 In
theorem nest42(w:World)(o:Obj):(((w.alloc (.cells pm42 5)).alloc (.cells ca42 153)).alloc o).heap[w.heap.size]? =some (.cells pm42 5 (0,0))∧(((w.alloc (.cells pm42 5)).alloc (.cells ca42 153)).alloc o).heap[w.heap.size+1]? =some (.cells ca42 153 (0,0))∧Below w.heap.size w (((w.alloc (.cells pm42 5)).alloc (.cells ca42 153)).alloc o):=by
 have a1:=heap_alloc_new w (.cells pm42 5);have s1:(w.alloc (.cells pm42 5)).heap.size=w.heap.size+1:=by simp
 have b1:=(Below.refl w.heap.size w).alloc (Nat.le_refl _) (.cells pm42 5);generalize w.alloc (.cells pm42 5)=w1 at*;have a2:=heap_alloc_new w1 (.cells ca42 153);have b2:=(Below.refl w1.heap.size w1).alloc (Nat.le_refl _) (.cells ca42 153);have s2:(w1.alloc (.cells ca42 153)).heap.size=w.heap.size+2:=by simp[s1]
 generalize w1.alloc (.cells ca42 153)=w2 at*;have b3:=(Below.refl w2.heap.size w2).alloc (Nat.le_refl _) o;rw[s1] at a2;refine⟨?_, ?_,(b1.trans (b2.mono (by omega))).trans (b3.mono (by omega))⟩
 ·rw[b3.block _ (by omega),b2.block _ (by omega)];exact a1
 ·rw[b3.block _ (by omega)];exact a2
theorem alive42(w:World):Calls Tryz.prog 20 #[] w fun r w'=>r=.returned (.bool true)∧Below w.heap.size w w':=by
 generalize hPQ:(fun(r:Ending) (w':World)=>r=.returned (.bool true)∧Below w.heap.size w w')=PQ;have HPQ:Hid (∀V,Below w.heap.size w V→PQ (.returned (.bool true)) V):=Lh fun V h=>by rw[←hPQ];exact⟨rfl,h⟩
 clear hPQ;go_enter func20,ntmps20;go_wp2_with fail;refine(fun(F:∀V,V.heap[w.heap.size]? =some (.cells pm42 5 (0,0))→V.heap[w.heap.size+1]? =some (.cells ca42 153 (0,0))→Below w.heap.size w V→Calls Tryz.prog _ #[.agg (wd42 w.heap.size (w.heap.size+1)).cells] V _)=>F _ (nest42 w _).1 (nest42 w _).2.1 (nest42 w _).2.2) ?_;intro w3 h0 h1 hb3;have HB3:=Lh hb3;have hpre:=st42_pre h0 h1;have hok:∀V,Below w3.heap.size w3 V→(wd42 w.heap.size (w.heap.size+1)).x.ok V:=fun V hV=>st42_ok (st42_pre ((hV.block _ (lQ h0)).trans h0) ((hV.block _ (lQ h1)).trans h1))
 have HMd:=Lh (made w3 _ (wd42_pre hpre) hok (show(0:Nat)≤40 by decide) (show(0:Nat)≤40 by decide));clear hb3 h0 h1 hpre hok;refine HMd.out.mono ?_;rintro r w4 (⟨g1,_⟩|⟨_,a,e,E,b,f,rfl,hke,hlk⟩)
 ·have:=n42;simp only[Prod.mk.injEq] at this;rw[show(wd42 w.heap.size (w.heap.size+1)).h.p=40 from rfl,show(wd42 w.heap.size (w.heap.size+1)).h.l=[] from rfl,this.1] at g1;cases g1
 have hn:=n42;simp only[Prod.mk.injEq] at hn;obtain⟨_,n1,n2,n3,n4,n5⟩:=hn;rw[asked42] at hke;have hlk:En.Like E en42:=hlk;have HKe:=Lh hke;have HLk:=Lh hlk;have HRn:=Lh (run1 hke.en (hlk.kind.trans n1) (by rw[hlk.stop,n5];decide) (some ⟨a.kb,0,none⟩));have HN:=Lh (And.intro n2 (And.intro n3 n4));clear hke hlk n1 n2 n3 n4 n5 HMd;go_wp2_with fail;refine HRn.out.mono ?_;rintro r w5 ⟨rfl,hs5⟩;have hnum:E.step.num=1:=HLk.out.step.num.trans HN.out.2.1;have hxe:frOf m42n E.step=x42:=frOf_like HLk.out.step m42n;have hall:=And.intro may42 (And.intro sp42 (And.intro v42 fun A=>t42 A));have hm42:x42.m=m42n:=rfl;generalize x42=x at hall hxe hm42;have hke5:=HKe.out.right hs5 (hnum.trans (HLk.out.num.trans HN.out.1).symm);have htk:=takeF (G:=⟨m42n,8,0⟩) hke5.ke (by rw[hnum];decide) (HLk.out.step.kind.trans HN.out.2.2) (by rw[hnum];rfl) ⟨(by decide:(0:Nat)≤2000000),(by decide:(0:Nat)≤2000000)⟩ (frOf_ok hke5.en ⟨(by decide:(0:Int)≤0),(by decide:(0:Int)≤4294967295),fun x hx=>(nomatch hx),fun x hx=>(nomatch hx)⟩) (by show(frOf m42n E.step).may;rw[hxe];exact hall.1);have HTk:=Lh htk;have HK5:=Lh hke5;have HX:=Lh hxe;have hxo:x.ok:=by rw[←hxe];exact frOf_ok hke5.en ⟨(by decide:(0:Int)≤0),(by decide:(0:Int)≤4294967295),fun x hx=>(nomatch hx),fun x hx=>(nomatch hx)⟩
 have hx65:x.sp.length=1:=by obtain⟨t,_,ht⟩:=hall.2.1;rw[ht];rfl
 have hxn:∀p,p∈x.sp→p.own=false:=by
  obtain⟨t,_,ht⟩:=hall.2.1;rw[ht];intro p hp;simp only[List.mem_singleton] at hp;subst hp;rfl
 have hxv:=hall.2.2.1;simp only[Prod.mk.injEq] at hxv;have HX2:=Lh (And.intro hall.1 (And.intro hxo (And.intro hx65 (And.intro hxn (And.intro hm42 (And.intro hxv.2.2.2 hall.2.2.2))))));clear hxo hx65 hxn hxv hall hm42 hnum hxe hke5 htk hs5 HRn HKe HLk HN;go_wp2_with fail;refine HTk.out.mono ?_;rintro r w6 ⟨ev,pv,sv,rfl,hin,how,hb6⟩;have hin:FrIn w6 (frOf m42n E.step) ev pv sv:=hin;rw[show(frOf (⟨m42n,8,0⟩:Gr).m E.step)=x from HX.out];rw[HX.out] at hin;obtain⟨eo,ec,rfl⟩:=hin.m.e.form;obtain⟨po,pc,rfl⟩:=hin.m.p.form;obtain⟨so,sc,rfl⟩:=hin.s.form;have HI6:=Lh hin;have HB6:=Lh hb6;have HO6:=Lh how;clear hin how hb6 HTk HX;have hz:FBox (w6.alloc (.cells (zeroFr.arr nl nl nl) 52)) w6.heap.size zeroFr nl nl nl:=heap_alloc_new w6 _;have HTh:=Lh hz.there;have HSt:=Lh (hz.sets x (.slice eo x.m.ext.length ec) (.slice po x.m.ports.length pc) (.slice so x.sp.length sc));clear hz
 dsimp only
 iterate 13 go_step
 refine wpList_store_mid rfl 52 (.tmp 6) (.tmp 41) rfl w6.heap.size 0 (x.arr (.slice eo x.m.ext.length ec) (.slice po x.m.ports.length pc) (.slice so x.sp.length sc)) rfl rfl HTh.out (fz_size _ _ _ _) (by kernel_rfl) ?_;refine(fun(F:∀V,FBox V w6.heap.size x (.slice eo x.m.ext.length ec) (.slice po x.m.ports.length pc) (.slice so x.sp.length sc)→Mod (fun k=>k=w6.heap.size) (w6.alloc (.cells (zeroFr.arr nl nl nl) 52)) V→wpList Tryz.prog _ _ _ _ V)=>F _ HSt.out.1 HSt.out.2) ?_;intro w7 hv7 hm7;have hb7:Below w6.heap.size w6 w7:=Mod.below ((Below.refl w6.heap.size w6).alloc (Nat.le_refl _) _) hm7 (by simp) fun i _ e=>by omega
 have HB7:=Lh hb7;have HV7:=Lh hv7;have HI7:=Lh (HI6.out.below hb7);obtain⟨xb,hxb⟩:∃y,w6.heap.size=y:=⟨_,rfl⟩;rw[hxb] at HV7⊢;obtain⟨xmay,xok,x1,xno,xm,xlen,xth⟩:=HX2.out;have hpu:=put HI7.out xok xmay (by omega) (by rw[xm];rfl) (by rw[xm];rfl);have HPu:=Lh hpu;have HRa:=Lh HV7.out.range;have HSi:=Lh (fz_sizeL x (.slice eo x.m.ext.length ec) (.slice po x.m.ports.length pc) (.slice so x.sp.length sc));clear hv7 hm7 hb7 hpu HSt HTh hxb;clear xmay xok x1 xno xm xlen xth;go_wp2_with (refine wpList_load_mid rfl 52 _ rfl xb 0 rfl _ _ HRa.out Tryz.underlying52 rfl HSi.out ?_;rw[Array.toArray_toList]);refine HPu.out.mono ?_;rintro r w8 ⟨s,rfl,hs,hb8⟩;have hss:s.size=341:=by rw[←tl_len,hs];exact HX2.out.2.2.2.2.2.1
 have HS:=Lh (And.intro hs hss);have hgt:=get (w:=w8) HX2.out.2.1 HX2.out.1 (by have:=HX2.out.2.2.1;omega) (by rw[HX2.out.2.2.2.2.1];rfl) (by rw[HX2.out.2.2.2.2.1];rfl) (s:=s) (z:=[]) (by rw[List.append_nil];exact hs) (by rw[hss];decide);have HGt:=Lh hgt;have HB8:=Lh hb8;clear hs hss hgt hb8 HPu HRa HSi;go_wp2_with fail;refine HGt.out.mono ?_;rintro r w9 ⟨hb9,(⟨_,yv,rfl,hyv,hyo⟩|⟨hz,_⟩)⟩
 case inr=>exact absurd rfl hz
 obtain⟨yo,yc,rfl⟩:=hyv.form;have HB9:=Lh hb9;have HY:=Lh (And.intro hyv hyo);clear hb9 hyv hyo HGt;have hz:FBox (w9.alloc (.cells (zeroFr.arr nl nl nl) 52)) w9.heap.size zeroFr nl nl nl:=heap_alloc_new w9 _;have HTh:=Lh hz.there;have HSt:=Lh (hz.sets x nl nl (.slice yo x.sp.length yc));clear hz
 dsimp only
 iterate 13 go_step
 refine wpList_store_mid rfl 52 (.tmp 10) (.tmp 51) rfl w9.heap.size 0 (x.arr nl nl (.slice yo x.sp.length yc)) rfl rfl HTh.out (fz_size _ _ _ _) (by kernel_rfl) ?_;refine(fun(F:∀V,FBox V w9.heap.size x nl nl (.slice yo x.sp.length yc)→Mod (fun k=>k=w9.heap.size) (w9.alloc (.cells (zeroFr.arr nl nl nl) 52)) V→wpList Tryz.prog _ _ _ _ V)=>F _ HSt.out.1 HSt.out.2) ?_;intro w10 hv10 hm10;have hb10:Below w9.heap.size w9 w10:=Mod.below ((Below.refl w9.heap.size w9).alloc (Nat.le_refl _) _) hm10 (by simp) fun i _ e=>by omega
 obtain⟨yb,hyb⟩:∃y,w9.heap.size=y:=⟨_,rfl⟩;rw[hyb] at hv10⊢;have hb510:Below w5.heap.size w5 w10:=bQ HB6.out (bQ HB7.out (bQ HB8.out (bQ HB9.out hb10)));have hkn10:=HK5.out.kn.below hb510;have hyin:FrIn w10 x nl nl (.slice yo x.sp.length yc):=⟨⟨by rw[HX2.out.2.2.2.2.1];exact SlV.nil _ _ _,by rw[HX2.out.2.2.2.2.1];exact SlV.nil _ _ _⟩,HY.out.1.below hb10⟩;have hz58:w5.heap.size≤w8.heap.size:=Nat.le_trans HB6.out.size (Nat.le_trans HB7.out.size HB8.out.size);have hz59:w5.heap.size≤yb:=by rw[←hyb];exact Nat.le_trans hz58 HB9.out.size
 have hty:a.tag yb=0∧∀g,(Value.slice yo x.sp.length yc).ownBlock=some g→a.tag g=0∧g<w10.heap.size:=by
  refine⟨Decidable.byContradiction fun q=>absurd (HK5.out.kn.lt _ q) (by omega),fun g hg=> ?_⟩;have:=HY.out.2 g hg;have:=hb10.size;exact⟨Decidable.byContradiction fun q=>absurd (HK5.out.kn.lt _ q) (by omega),by omega⟩
 have hthw:=thaw hkn10 (by decide) (by decide) hyin HX2.out.2.1 HX2.out.1 (by have:=HX2.out.2.2.1;omega) HX2.out.2.2.2.1 2;have HTw:=Lh hthw;have HV10:=Lh hv10;have HTy:=Lh hty;have HYi:=Lh hyin;have HB10:=Lh (Below.trans (bQ HB3.out HK5.out.bel) (hb510.mono (Nat.le_trans HB3.out.size HK5.out.bel.size)));have HZ:=Lh (And.intro (Nat.le_trans HB3.out.size HK5.out.bel.size) (And.intro hz58 hb510.size));have HRa:=Lh hv10.range;have HSi:=Lh (fz_sizeL x nl nl (.slice yo x.sp.length yc));clear hv10 hm10 hb10 hyb hb510 hkn10 hyin hz58 hz59 hty hthw HSt HTh;go_wp2_with (refine wpList_load_mid rfl 52 _ rfl yb 0 rfl _ _ HRa.out Tryz.underlying52 rfl HSi.out ?_;rw[Array.toArray_toList]);refine HTw.out.mono ?_;obtain⟨xmay,xok,x1,xno,xm,xlen,xth⟩:=HX2.out;have hgg:=g42;simp only[Prod.mk.injEq] at hgg;have hg1:Ca.grantE k42.hp k42.hx k42.g 2 x.m x.sp.length=0:=by rw[xm,x1];exact hgg.2.1
 have hg2:Ca.grantE k42b.hp k42b.hx k42b.g 2 x.m x.sp.length=9:=by rw[xm,x1];exact hgg.2.2
 rintro r w12 (⟨h1,_⟩|⟨_,a',e2,A,rfl,hks,he2,_,hef⟩)
 ·exact absurd hg1 h1
 have hK2:({k42 with g:=Gp.upd k42.g 2 (some ⟨x.m,x.sp.length,0⟩)}:Kn)=k42b:=by rw[xm,x1];rfl
 rw[hK2] at hks;have hxa:=xth A;simp only[Prod.mk.injEq] at hxa;obtain⟨ha1,ha2,ha3⟩:=hxa;have hty:=HTy.out;have hv12:FBox w12 yb x nl nl (.slice yo x.sp.length yc):=HV10.out.keep hks.mod fun q=>q.1 hty.1
 have hyin:FrIn w12 x nl nl (.slice yo x.sp.length yc):=⟨⟨by rw[xm];exact SlV.nil _ _ _,by rw[xm];exact SlV.nil _ _ _⟩,HYi.out.s.keep fun g hg=>hks.mod.block g (hty.2 g hg).2 fun q=>q.1 (hty.2 g hg).1⟩;have hthw:=thaw hks.k (by decide) (by decide) hyin xok xmay (by omega) xno 2;rw[hks.same.1] at hthw;have hb12:Below w.heap.size w w12:=Mod.below HB10.out hks.mod HB10.out.size fun k _ q=>by
  have h1:=HK5.out.k0 k q.1;have h2:=HB3.out.size;omega
 have HTw2:=Lh hthw;have HE2:=Lh he2;have HA:=Lh (And.intro ha1 (And.intro ha2 ha3));have HB12:=Lh hb12;have HRb:=Lh hv12.range;have HG2:=Lh hg2;clear hgg hg1 hg2 hks he2 hef hK2 ha1 ha2 ha3 hty hv12 hyin hthw hb12 xmay xok x1 xno xm xlen xth HTw HV10 HTy HYi HRa;go_wp2_with fail;refine(Ev.cpu HE2.out).mono ?_;rintro r v1 ⟨rfl,rfl⟩;go_wp2_with (refine wpList_load_mid rfl 52 _ rfl yb 0 rfl _ _ HRb.out Tryz.underlying52 rfl HSi.out ?_;rw[Array.toArray_toList]);refine HTw2.out.mono ?_;rintro r w13 (⟨_,rfl,hb13⟩|⟨h1,_⟩)
 case inr=>exact absurd (HG2.out.symm.trans h1) (by decide)
 rw[HG2.out];have HE13:=Lh (HE2.out.below hb13);have HB13:=Lh (HB12.out.trans (hb13.mono HB12.out.size));have hss:=HS.out.2;have hov:¬(9223372036854775807<s.size+1):=by omega
 have hgt:=get (w:=w13) HX2.out.2.1 HX2.out.1 (by have:=HX2.out.2.2.1;omega) (by rw[HX2.out.2.2.2.2.1];rfl) (by rw[HX2.out.2.2.2.2.1];rfl) (s:=s++⟨#[120]⟩) (z:=[120]) (by rw[tl_app,HS.out.1,show tl ⟨#[120]⟩=[120] from rfl]) (by rw[ByteArray.size_append,hss,show(⟨#[120]⟩:ByteArray).size=1 from rfl];decide);have HGt:=Lh hgt;clear hb13 hgt HTw2 HE2 HB12 HRb HG2;go_wp2_with fail;refine HGt.out.mono ?_;rintro r w14 ⟨hb14,(⟨hz,_⟩|⟨_,rfl⟩)⟩
 case inl=>cases hz
 have hz:FBox (w14.alloc (.cells (zeroFr.arr nl nl nl) 52)) w14.heap.size zeroFr nl nl nl:=heap_alloc_new w14 _;have HTh:=Lh hz.there;have HSt:=Lh (hz.sets zeroFr nl nl nl);have HE14:=Lh (HE13.out.below hb14);have HB14:=Lh (HB13.out.trans (hb14.mono HB13.out.size));have hl341:((s.size:Int) == 341)=true:=by rw[hss];rfl
 clear hz hb14 HGt HE13 HB13 hss hov
 dsimp only
 iterate 13 go_step
 refine wpList_store_mid rfl 52 (.tmp 16) (.tmp 92) rfl w14.heap.size 0 (zeroFr.arr nl nl nl) rfl rfl HTh.out (fz_size _ _ _ _) (by kernel_rfl) ?_;refine(fun(F:∀V,Mod (fun k=>k=w14.heap.size) (w14.alloc (.cells (zeroFr.arr nl nl nl) 52)) V→wpList Tryz.prog _ _ _ _ V)=>F _ HSt.out.2) ?_;intro w15 hm15;have hb15:Below w14.heap.size w14 w15:=Mod.below ((Below.refl w14.heap.size w14).alloc (Nat.le_refl _) _) hm15 (by simp) fun i _ e=>by omega
 have he15:=HE14.out.below hb15;have HEnd:=Lh (HPQ.out w15 (HB14.out.trans (hb15.mono HB14.out.size)));have har:=Ev.arg he15 1 (by decide) (by decide);have hcp:=Ev.cpu he15;have hpc:=Cp.pc_ok he15.cp;have hnm:=Ev.num he15;rw[HA.out.1] at har;rw[HA.out.2.1] at hpc;rw[HA.out.2.2] at hnm;have HAr:=Lh har;have HCp:=Lh hcp;have HPc:=Lh hpc;have HNm:=Lh hnm;clear har hcp hpc hnm he15 hb15 hm15 HE14 HB14 HSt HTh HA HPQ;go_wp2_with fail;refine HAr.out.mono ?_;rintro r v1 ⟨rfl,rfl⟩;go_wp2_with fail;refine HCp.out.mono ?_;rintro r v1 ⟨rfl,rfl⟩;go_wp2_with fail;refine HPc.out.mono ?_;rintro r v1 ⟨rfl,rfl⟩;go_wp2_with fail;refine HNm.out.mono ?_;rintro r v1 ⟨rfl,rfl⟩;go_wp2
 first|exact HEnd.out|(go_ret;exact HEnd.out)
end Go.Proofs.YtehihecknhcggaaGreat.Fz
namespace Go.Proofs.YtehihecknhcggaaGreat
open Go.RowKit Word
namespace Cp
def smRel(w:World)(vi:Value)(wr:World):Prop:=∃i:Nat,i≤16∧vi=.int .i64 i∧wr=w
theorem same06{w:World}{cb db:Nat}{r:List Int}{pc:Int}(hc:Cpu 326 w cb r pc)(hd:Cpu 199 w db r pc):
  Calls Tryz.prog 106 #[.pointer (some ⟨cb,0,none⟩),.pointer (some ⟨db,0,none⟩)] w fun e w'=>e=.returned (.bool true)∧Below w.heap.size w w':=by
 have HC:=Lh hc;have HD:=Lh hd;clear hc hd;go_enter func106,ntmps106;go_wp2;go_loopw [5] (fun vi wr=>smRel w vi wr) (fun vi _=>16 - (intOf vi).toNat)
 case atStart=>exact⟨0,by omega,by go_num,rfl⟩
 case round=>
  obtain⟨i,hi,rfl,rfl⟩:=hrel
  by_cases hi2:i<16
  ·have hi3:(i:Int)<16:=by omega
   have hr:=reg_ok HC.out i hi2;have hdc:=HD.out.cellReg i hi2;have HR:=Lh hr;clear hr;generalize rg r (i:Int)=v at*;go_wp2_with (go_at_call 185;(with_reducible refine HR.out.mono ?_);rintro e w2 ⟨rfl,rfl⟩);exact⟨⟨i+1,by omega,by go_num,rfl⟩,by simp[intOf];omega⟩
  ·obtain rfl:i=16:=by omega
   have hp:=HD.out.cellPc;have HPn:Hid (∀n,Calls Tryz.prog 78 #[.pointer (some ⟨cb,0,none⟩)] (wr.drewN n) fun e w'=>e=.returned (.int .u32 pc)∧w'=wr.drewN n):=Lh fun n=>(pc_ok (HC.out.frame (w':=wr.drewN n) rfl)).mono fun e w' ⟨g1,g2⟩=>⟨g1,g2.symm⟩
   go_wp2_with fail;go_quiet ((go_at_call 78;exact Calls.quiet_of_same (HPn.out _)));go_wp2;go_ret;exact⟨rfl,by first|exact below_drewN Br _|exact Br.drew|exact(below_drewN Br _).drew⟩
end Cp
open Go.RowKit Word
namespace Cp
theorem eqState(k n y:Int)(w:World):(binOp .eql 195 (.agg #[.int .u8 k,.int .u32 n,.int .i64 y]) (.agg #[.int .u8 k,.int .u32 n,.int .i64 y])).run Tryz.prog w=.ok (.bool true) w:=by
 simp[go_sem,Tryz.underlying195]
end Cp
open Go.RowKit Word
namespace Cp
theorem sameE{w0 w:World}{a:EAt}{E:En}{b:RAt}{R:List Rp}{F:En}(h:EPair w0 w a E b R F)(hl:En.Like E F):
  Calls Tryz.prog 27 #[.pointer (some ⟨a.eb,0,none⟩),.pointer (some ⟨b.eb,0,none⟩)] w fun e w'=>e=.returned (.bool true)∧Below w.heap.size w w':=by
 have HP:=Lh fun V (hV:Below w.heap.size w V)=>h.below hV
 have HL:=Lh hl;have HOk:=Lh h.env.ok.len;have HOkF:=Lh h.ren.ok.len;have HB0:=Lh (Below.refl w.heap.size w);obtain⟨ao,ac,how⟩:=SlV.form h.ren.ls;have HOw:=Lh how;have hcell:∀V,Below w.heap.size w V→V.cell? ⟨b.eb,0,none⟩=some (.int .i64 E.num)∧V.cell? ⟨b.eb,1,none⟩=some (.pointer (some ⟨b.rb,0,none⟩))∧V.cell? ⟨b.eb,2,none⟩=some (.pointer (some ⟨b.cb,0,none⟩))∧V.cell? ⟨b.eb,3,none⟩=some (.int .u8 E.kind)∧V.cell? ⟨b.eb,4,none⟩=some (.int .u32 E.code)∧V.cell? ⟨b.eb,5,none⟩=some (.int .i64 E.why)∧V.cell? ⟨b.eb,6,none⟩=some (.slice ao E.own.length ac)∧V.cell? ⟨b.eb,7,none⟩=some (.string E.text):=fun V hV=>by
  have hc:=Rv.cells (h.below hV).ren;rw[how,←hl.num,←hl.kind,←hl.code,←hl.why,←hl.text,←hl.own] at hc;exact hc
 have HCl:=Lh hcell;have hcpu:=Ev.cpu h.env;have hspc:=Ev.space h.env;have HCpu:=Lh hcpu;have HSpc:=Lh hspc;have HAp:=Lh h.apart;clear h hl how hcell hcpu hspc;go_enter func27,ntmps27;go_wp2_with fail;refine HCpu.out.mono ?_;rintro e w1 ⟨rfl,rfl⟩;go_wp2_with fail;refine HSpc.out.mono ?_;rintro e w1 ⟨rfl,rfl⟩;go_wp2_with fail;have m:=HCl.out _ (Below.refl _ w);have se:=fun W=>eqState E.kind E.code E.why W
 obtain⟨m0,m1,m2,m3,m4,m5,m6,m7⟩:=m;go_region_held3 (fun w'=>w'.cell? ⟨b.eb,0,none⟩=some (.int .i64 E.num)∧w'.cell? ⟨b.eb,1,none⟩=some (.pointer (some ⟨b.rb,0,none⟩))∧w'.cell? ⟨b.eb,2,none⟩=some (.pointer (some ⟨b.cb,0,none⟩))∧w'.cell? ⟨b.eb,3,none⟩=some (.int .u8 E.kind)∧w'.cell? ⟨b.eb,4,none⟩=some (.int .u32 E.code)∧w'.cell? ⟨b.eb,5,none⟩=some (.int .i64 E.why)∧w'.cell? ⟨b.eb,6,none⟩=some (.slice ao E.own.length ac)∧w'.cell? ⟨b.eb,7,none⟩=some (.string E.text))
  (first
   |exact⟨m0,m1,m2,m3,m4,m5,m6,m7⟩
   |exact HCl.out _ hb2
   |exact HCl.out _ hb3
   |exact HCl.out _ hb4
   |exact HCl.out _ hb5
   |exact HCl.out _ hb6)
  (first
   |(
     go_at_call 79;refine(Ev.num (HP.out _ (by first|exact Below.refl _ _|exact Br.drew)).env).mono ?_;rintro e x1 ⟨rfl,rfl⟩)
   |(
     go_at_call 102;refine(Ev.state (HP.out _ (by first|exact Below.refl _ _|exact Br.drew)).env).mono ?_;rintro e x2 ⟨rfl,hx2⟩;have hb2:Below w.heap.size w x2:=bQ (by first|exact Below.refl _ _|exact Br.drew) hx2)
   |(
     go_at_call 103;refine(Ev.console (HP.out _ hb2).env).mono ?_;rintro e x3 ⟨rfl,rfl⟩)
   |(
     go_at_call 105;refine(Ev.own (HP.out _ hb2).env).mono ?_;rintro e x3 ⟨v3,rfl,hl3,hv3,hx3⟩;have hb3:Below w.heap.size w x3:=bQ hb2 hx3;obtain⟨o3,k3,rfl,hw3⟩:=hl3.words HOk.out;have hls:=(HP.out _ hb3).ren.ls;rw[HOw.out,←HL.out.own] at hls;obtain⟨o4,k4,he4,hw4⟩:=Sl.Lst.words hls HOk.out;simp only[Value.slice.injEq] at he4;obtain⟨rfl,_,rfl⟩:=he4;have HSw:=Lh (Rs.sameWords (ca:=k3) (cb:=ac) hw3 hw4);rw[decide_eq_true rfl] at HSw)
   |(
     go_at_call 104;refine HSw.out.mono ?_;rintro e x4 ⟨rfl,hx4⟩;have hb4:Below w.heap.size w x4:=bQ hb3 hx4)
   |(
     go_at_call 76;refine(Ev.cpu (HP.out _ hb4).env).mono ?_;rintro e x5 ⟨rfl,rfl⟩)
   |(
     go_at_call 106;refine(by have h5:=(HP.out _ hb4).ren.cp;rw[←HL.out.r,←HL.out.pc] at h5;exact same06 (HP.out _ hb4).env.cp h5:Calls Tryz.prog 106 #[.pointer (some ⟨a.cb,0,none⟩),.pointer (some ⟨b.cb,0,none⟩)] x4 _).mono ?_;rintro e x5 ⟨rfl,hx5⟩;have hb5:Below w.heap.size w x5:=bQ hb4 hx5)
   |(
     go_at_call 92;refine(Ev.space (HP.out _ hb5).env).mono ?_;rintro e x6 ⟨rfl,rfl⟩)
   |(
     go_at_call 107;refine(Sp.same (⟨(HP.out _ hb5).env.sp,(HP.out _ hb5).ren.rp,fun k hk g=>HAp.out k (.inr (.inr (.inl hk))) (.inr (.inr (.inl g)))⟩:Pair _ a.sb a.mb E.A b.rb b.lv R) (by rw[(HP.out _ hb5).ren.eq];exact HL.out.A)).mono ?_;rintro e x6 ⟨rfl,hx6⟩;have hb6:Below w.heap.size w x6:=bQ hb5 hx6))
 have HF:=Lh hb6;clear m0 m1 m2 m3 m4 m5 m6 m7 hb2 hb3 hb4 hb5 hx2 hx3 hx4 hx5 hx6 hl3 hv3 hw3 hls hw4 HSw HP HCl se;go_wp2;go_ret;exact⟨rfl,HF.out⟩
end Cp
end Go.Proofs.YtehihecknhcggaaGreat
namespace Go.Proofs.YtehihecknhcggaaGreat.Fz
open Go.RowKit In Word
theorem hard_bd{hp:Int}{xs:List Int}(h:Ca.hardOk hp xs=true):hp≤4096∧xs.length≤16:=by
 unfold Ca.hardOk at h;simp only[Bool.and_eq_true,decide_eq_true_eq] at h;omega
structure TwI(w3 wr:World)(hp:Int)(hx:List Int)(kb rb nb:Nat)(one two:Int)(a:KAt)(b:RkAt)(K:Kn):Prop where
 p:KPair w3 wr a K b K
 ka:a.kb=kb
 kr:b.kb=rb
 hp:K.hp=hp
 hx:K.hx=hx
 ta:a.tag nb=0
 tb:b.tag nb=0
 nb:wr.heap[nb]? =some (.cells #[.int .i64 one,.int .i64 two] 3 (0,0))
def twRel(w3:World)(hp:Int)(hx:List Int)(kb rb nb:Nat)(one two:Int)(vi:Value)(wr:World):Prop:=∃(i:Nat) (a:KAt) (b:RkAt) (K:Kn),i≤2∧vi=.int .i64 i∧TwI w3 wr hp hx kb rb nb one two a b K
theorem TwI.below{w3 wr V:World}{hp:Int}{hx:List Int}{kb rb nb:Nat}{one two:Int}{a:KAt}{b:RkAt}{K:Kn}(h:TwI w3 wr hp hx kb rb nb one two a b K)(hV:Below wr.heap.size wr V):TwI w3 V hp hx kb rb nb one two a b K:=
 {h with p:=h.p.below hV,nb:=(hV.block _ (lQ h.nb)).trans h.nb}
theorem TwI.prog{w3 wr V:World}{nb:Nat}{one two:Int}{a a':KAt}{b:RkAt}{K K':Kn}(h:KPair w3 wr a K b K)(hn:wr.heap[nb]? =some (.cells #[.int .i64 one,.int .i64 two] 3 (0,0)))(ta:a.tag nb=0)(s:KStep wr V a K a' K'):
  KPair w3 V a' K' b K∧V.heap[nb]? =some (.cells #[.int .i64 one,.int .i64 two] 3 (0,0))∧a'.tag nb=0∧a'.kb=a.kb:=by
 have hl:=lQ hn;exact⟨h.prog s,(s.mod.block _ hl fun q=>q.1 ta).trans hn,(s.tag _ hl).trans ta,s.same.1⟩
theorem TwI.doc{w3 wr V:World}{nb:Nat}{one two:Int}{a:KAt}{b b':RkAt}{K L L':Kn}(h:KPair w3 wr a K b L)(hn:wr.heap[nb]? =some (.cells #[.int .i64 one,.int .i64 two] 3 (0,0)))(tb:b.tag nb=0)(s:RkStep wr V b L b' L'):
  KPair w3 V a K b' L'∧V.heap[nb]? =some (.cells #[.int .i64 one,.int .i64 two] 3 (0,0))∧b'.tag nb=0∧b'.kb=b.kb:=by
 have hl:=lQ hn;exact⟨h.doc s,(s.mod.block _ hl fun q=>q.1 tb).trans hn,(s.tag _ hl).trans tb,s.same.1⟩
theorem like_thF{num:Int}{x:Fr}{A B:List Pg}(h:cores A=corL x.sp)(k:cores B=corL x.sp):En.Like (thF num x A) (thF num x B):=⟨rfl,rfl,rfl,rfl,rfl,rfl,h.trans k.symm,rfl,rfl⟩
theorem freezeThaws(w:World)(h:HdI)(hh:h.pre w)(d:FrI)(hd:d.pre w)(one:Int)(o0: -9223372036854775808≤one)(o1:one≤9223372036854775807)(two:Int)(t0: -9223372036854775808≤two)(t1:two≤9223372036854775807):
  Calls Tryz.prog 4 #[.agg #[.int .u32 h.p,h.v],.agg d.cells,.int .i64 one,.int .i64 two] w fun r w'=>r=.returned (.bool true)∧Below w.heap.size w w':=by
 have hb1:Below w.heap.size w (w.alloc (.cells #[.int .u32 h.p,h.v] 44)):=Ba _;have hn1:=heap_alloc_new w (.cells #[.int .u32 h.p,h.v] 44);obtain⟨w0,hw0⟩:∃y,w.alloc (.cells #[.int .u32 h.p,h.v] 44)=y:=⟨_,rfl⟩;rw[hw0] at hb1 hn1;have hb2:Below w0.heap.size w0 (w0.alloc (.cells d.cells 52)):=Ba _;have hx:FBox (w0.alloc (.cells d.cells 52)) w0.heap.size d.x d.mi.ev d.mi.pv d.sv:=heap_alloc_new w0 _;obtain⟨w1,hw1⟩:∃y,w0.alloc (.cells d.cells 52)=y:=⟨_,rfl⟩;rw[hw1] at hb2 hx;have hb:=bQ hb1 hb2;have hh1:=(hb2.block _ (lQ hn1)).trans hn1;obtain⟨hb',hhb⟩:∃y,w.heap.size=y:=⟨_,rfl⟩;obtain⟨xb,hxb⟩:∃y,w0.heap.size=y:=⟨_,rfl⟩;rw[hxb] at hx;rw[hhb] at hh1;generalize hPQ:(fun(r:Ending) (w':World)=>r=.returned (.bool true)∧Below w.heap.size w w')=PQ;have HPQ:Hid (∀V,Below w1.heap.size w1 V→PQ (.returned (.bool true)) V):=Lh fun V hV=>by rw[←hPQ];exact⟨rfl,bQ hb hV⟩
 have hd1:d.pre w1:=⟨⟨hd.m.i.below hb,hd.m.ok⟩,hd.ok,hd.s.below hb,hd.t,hd.z⟩;have HX:=Lh hx;have HH:=Lh (two_of hh1);have HHb:=Lh hh1;have HLg:=Lh (largeB w1 d hd1);have HD:=Lh hd1;have HWd:=Lh (Ca.words_below hh.w hb);have HBd:=Lh hh.bd;have HP0:=Lh hh.p0;have HSi:Hid ((Tryz.prog.info? 52).map (·.size)=some d.cells.toList.length):=Lh (fz_sizeL d.x d.mi.ev d.mi.pv d.sv);have HRa:Hid (w1.rangeAt xb 0 d.cells.toList):=Lh hx.range;have HNum:=Lh (And.intro (And.intro o0 o1) (And.intro t0 t1));clear hPQ hb hb1 hb2 hx hd hd1 hh hn1 hh1 o0 o1 t0 t1;obtain⟨C,hC⟩:∃C,d.cells=C:=⟨_,rfl⟩;rw[hC] at hw1 HLg HSi HRa⊢;unfold FrI.cells Fr.arr FrI.mi MnI.ev MnI.pv FrI.sv at hC;unfold HdI.v at hw0 HHb HH⊢;simp only at hC;subst hC;go_enter func4,ntmps4;go_upto_region 1 with(fail);try rw[hw0]
 try rw[hw1]
 try rw[hhb]
 try rw[hxb]
 clear hw0 hw1 hhb hxb;go_wp2_with (refine wpList_load_mid rfl 52 _ rfl xb 0 rfl _ _ HRa.out Tryz.underlying52 rfl HSi.out ?_;rw[Array.toArray_toList]);refine HLg.out.mono ?_;rintro r w2 ⟨bl,rfl,hsm,hb2⟩;have HBz:=Lh hb2;cases bl with
 |true=>
  clear hb2 hsm HLg HRa;go_wp2_with fail;refine(alive42 _).mono ?_;rintro r w9 ⟨rfl,hb9⟩;have HEnd:=Lh (HPQ.out w9 (bQ HBz.out hb9));clear hb9 HPQ;go_wp2
  first|exact HEnd.out|(go_ret;exact HEnd.out)
 |false=>
  have HSm:=Lh (hsm rfl);clear hsm HLg HRa;have hH2:=(hb2.block _ (lQ HHb.out)).trans HHb.out;obtain⟨c0,c1,_⟩:=two_of hH2;have HH2:=Lh hH2;clear hH2 hb2
  by_cases h20:20<h.l.length
  ·have g20:(20:Int)<h.l.length:=by omega
   clear h20;go_wp2_with fail;refine(alive42 _).mono ?_;rintro r w9 ⟨rfl,hb9⟩;have HEnd:=Lh (HPQ.out w9 (bQ HBz.out hb9));clear hb9 HPQ;go_wp2
   first|exact HEnd.out|(go_ret;exact HEnd.out)
  ·have g20:¬(20:Int)<h.l.length:=by omega
   clear h20;go_wp2_with fail;refine(R19.may (Ca.words_below HWd.out HBz.out) HBd.out HP0.out).mono ?_;rintro r w3 ⟨rfl,hb3⟩;have hH3:=(hb3.block _ (lQ HH2.out)).trans HH2.out;have HBy:=HBz;have HBz:=Lh (bQ HBy.out hb3);obtain⟨c0,c1,_⟩:=two_of hH3;have HH3:=Lh hH3;clear hH3 hb3 HH2 HBy;cases hok:Ca.hardOk h.p h.l with
   |false=>
    clear hok;go_wp2_with fail;refine(alive42 _).mono ?_;rintro r w9 ⟨rfl,hb9⟩;have HEnd:=Lh (HPQ.out w9 (bQ HBz.out hb9));clear hb9 HPQ;go_wp2
    first|exact HEnd.out|(go_ret;exact HEnd.out)
   |true=>
    have HHk:=Lh hok;go_wp2_with fail;refine(Kl.new (Ca.words_below HWd.out HBz.out) HBd.out HP0.out hok).mono ?_;rintro r w4 ⟨a,rfl,hk4,ha4,hb4⟩;have hH4:=(hb4.block _ (lQ HH3.out)).trans HH3.out;obtain⟨c0,c1,_⟩:=two_of hH4;have HK4:=Lh hk4;have HA4:=Lh ha4;have HB4:=Lh hb4;clear hk4 ha4 hb4 hH4 hok;go_wp2_with fail;refine(Rk.new (Ca.words_below HWd.out (bQ HBz.out HB4.out)) HBd.out HP0.out HHk.out).mono ?_;rintro r w5 ⟨b,rfl,hr5,hhv,ht5,hb5⟩;have hpr:=L22.pair (cap:=h.cap) (Ca.words_below HWd.out HBz.out) HK4.out HA4.out HB4.out Br hr5 (fun k hk=>(ht5 k hk).imp id fun z=>z) hb5;have HPr:=Lh hpr;clear hpr hr5 hhv ht5 hb5 HK4 HA4 c0 c1;go_wp2_with fail;refine(Kl.caps HPr.out.p).mono ?_;rintro r w6 ⟨rfl,rfl⟩
    -- the loop
    have hn5:=heap_alloc_new w5 (.cells #[.int .i64 one,.int .i64 two] 3);have hb57:Below w5.heap.size w5 (w5.alloc (.cells #[.int .i64 one,.int .i64 two] 3)):=Ba _;have hta:a.tag w5.heap.size=0:=Decidable.byContradiction fun z=>absurd (HPr.out.p.lt _ z) (Nat.lt_irrefl _)
    have htb:b.tag w5.heap.size=0:=Decidable.byContradiction fun z=>absurd (HPr.out.d.lt _ z) (Nat.lt_irrefl _)
    have HR0:=Lh (show twRel w3 h.p h.l a.kb b.kb w5.heap.size one two (.int .i64 0) (w5.alloc (.cells #[.int .i64 one,.int .i64 two] 3)) from⟨0,a,b,_,by omega,rfl,HPr.out.below hb57,rfl,rfl,rfl,rfl,hta,htb,hn5⟩);obtain⟨kb,hkb⟩:∃y,a.kb=y:=⟨_,rfl⟩;obtain⟨rb,hrb⟩:∃y,b.kb=y:=⟨_,rfl⟩;rw[hkb,hrb] at HR0;rw[hkb,hrb];have HHd:=Lh (hard_bd HHk.out);have HXx:Hid (∀V,Below w3.heap.size w3 V→FBox V xb d.x d.mi.ev d.mi.pv d.sv):=Lh fun V hV=>HX.out.keep (Mod.of_below (bQ HBz.out hV) fun _=>False) id
    have HFv:Hid (∀V,Below w3.heap.size w3 V→FrV V d.x d.mi.ev d.mi.pv d.sv):=Lh fun V hV=>(HSm.out.v HD.out).below (bQ HBz.out hV)
    obtain⟨mb,HMb⟩:∃m:Bool,Hid (m=true↔d.x.may):=by
     by_cases q:d.x.may
     ·exact⟨true,Lh ⟨fun _=>q,fun _=>rfl⟩⟩
     ·exact⟨false,Lh ⟨fun z=>(nomatch z),fun z=>absurd z q⟩⟩
    clear hn5 hb57 hta htb hkb hrb HPr HB4 HH3 c0 c1 HX HH HHb HSi;go_wp2;obtain⟨w7,hw7⟩:∃y,w5.alloc (.cells #[.int .i64 one,.int .i64 two] 3)=y:=⟨_,rfl⟩;obtain⟨nb,hnb⟩:∃y,w5.heap.size=y:=⟨_,rfl⟩;rw[hw7,hnb] at HR0;try rw[hw7]
    try rw[hnb]
    clear hw7 hnb;go_loopw [13,14,15,16,17] (fun vi _ _ _ _ wr=>twRel w3 h.p h.l kb rb nb one two vi wr) (fun vi _ _ _ _ _=>2 - (intOf vi).toNat)
    case atStart=>exact HR0.out
    case round=>
     clear HR0;obtain⟨i,a,b,K,hi,rfl,hI⟩:=hrel
     by_cases hin:i<2
     ·have ii:(i:Int)<2:=by omega
      have i0:(0:Int)≤(i:Int):=by omega
      have iw:IntKind.i64.wrap ((i:Int)+1)=(i:Int)+1:=by rw[IntKind.wrap_i64];omega
      obtain⟨num,hnum,hn0,hn1⟩:∃num,wr.cell? ⟨nb,i,none⟩=some (.int .i64 num)∧ -9223372036854775808≤num∧num≤9223372036854775807:=by
       have hnb:=hI.nb
       match i,hin with
       |0,_=>exact⟨one,by unfold World.cell?;rw[hnb];rfl,HNum.out.1.1,HNum.out.1.2⟩
       |1,_=>exact⟨two,by unfold World.cell?;rw[hnb];rfl,HNum.out.2.1,HNum.out.2.2⟩
      have HCl:Hid (∀V:World,V.heap[nb]? =some (.cells #[.int .i64 one,.int .i64 two] 3 (0,0))→V.cell? ⟨nb,i,none⟩=some (.int .i64 num)):=Lh fun V hV=>by
       have h2:=hI.nb;unfold World.cell? at hnum⊢;rw[hV];rw[h2] at hnum;exact hnum
      have HNn:Hid (I64 num):=Lh ⟨hn0,hn1⟩;have HI:=Lh hI;obtain⟨rk,hrk⟩:∃y,b.c.rb=y:=⟨_,rfl⟩;have HRk:=Lh hrk;clear hI hnum hn0 hn1 hrk;go_wp2_with fail;refine B (fun V=>V.cell? ⟨nb,i,none⟩=some (.int .i64 num)∧FBox V xb d.x d.mi.ev d.mi.pv d.sv∧True) ⟨HCl.out _ HI.out.nb,HXx.out _ (HI.out.p.bel.drew),trivial⟩ fun wd hwd hS=> ?_
      have HId:=Lh (show TwI w3 wd h.p h.l kb rb nb one two a b K by rw[hwd];exact HI.out.below Br.drew);clear hwd HI;refine T 0 hS ?_;refine T 1 hS ?_;refine T 2 hS ?_;refine T 3 hS ?_;refine T 4 hS ?_;refine U 5 fun K' hK=> ?_
      rw[if_pos (by rfl)];refine wp_load_mid 52 _ rfl xb 0 rfl _ _ hS.2.1.range Tryz.underlying52 rfl (fz_sizeL _ _ _ _) ?_;rw[Array.toArray_toList];refine V hK hS ?_;clear hK K';refine U 6 fun K' hK=> ?_
      go_simp;go_at_call 25;refine(copyD (HFv.out wd HId.out.p.bel) (by have:=HSm.out.e;omega) (by have:=HSm.out.p;omega) (by have:=HSm.out.sp;omega)).mono ?_;rintro r v1 ⟨ev1,pv1,sv1,rfl,hfi,hb1⟩;have HI1:=Lh (HId.out.below hb1);have hS1:v1.cell? ⟨nb,i,none⟩=some (.int .i64 num)∧FBox v1 xb d.x d.mi.ev d.mi.pv d.sv∧True:=⟨HCl.out _ HI1.out.nb,HXx.out _ HI1.out.p.bel,trivial⟩;have htp:=thawP HI1.out.p.p (by have h1:=HI1.out.hp;have h2:=HHd.out.1;omega) (by have h1:=HI1.out.hx;rw[h1];exact HHd.out.2) hfi HD.out.ok HMb.out (by have:=HSm.out.sp;omega) num;rw[HI1.out.ka] at htp;have HTp:=Lh htp;clear hb1 htp hfi hS HId;refine V hK hS1 ?_;clear hK K';refine U 7 fun K' hK=> ?_
      go_simp;go_at_call 24;refine HTp.out.mono ?_;rintro r v2 (⟨he,rfl,hb2⟩|⟨he,a2,e,A,rfl,hs2,hen,hca,hef⟩)
      ·have HI2:=Lh (HI1.out.below hb2);have HHe:=Lh he;have hS2:v2.cell? ⟨nb,i,none⟩=some (.int .i64 num)∧FBox v2 xb d.x d.mi.ev d.mi.pv d.sv∧True:=⟨HCl.out _ HI2.out.nb,HXx.out _ HI2.out.p.bel,trivial⟩;have HS12:Hid (∀V:World,Below v2.heap.size v2 V→V.cell? ⟨nb,i,none⟩=some (.int .i64 num)∧FBox V xb d.x d.mi.ev d.mi.pv d.sv∧True):=Lh fun V hV=>⟨HCl.out _ (HI2.out.below hV).nb,HXx.out _ (HI2.out.below hV).p.bel,trivial⟩
       have hgb:(thErr mb K num d.x != 0)=true:=bne_iff_ne.2 he;have htd:∀V,Below v2.heap.size v2 V→Calls Tryz.prog 26 #[.pointer (some ⟨rb,0,none⟩),.int .i64 num,.agg (d.x.arr d.mi.ev d.mi.pv d.sv)] V (ThD V b mb K num d.x):=fun V hV=>by
        have hq:=HI2.out.below hV;have:=thawR hq.p.d (by have h1:=hq.hx;rw[h1];exact HHd.out.2) (HFv.out V hq.p.bel) HD.out.ok HMb.out (by have:=HSm.out.sp;omega) num;rw[hq.kr] at this;exact this
       clear he hb2 HI1 HTp hS1;refine V hK hS2 ?_;clear hK K';refine T 8 hS2 ?_;refine T 9 hS2 ?_;refine T 10 hS2 ?_;refine T 11 hS2 ?_;refine T 12 hS2 ?_;refine wpAnyH_done (by kernel_rfl) ?_ _;clear hS2;go_wp2_with fail;refine B (fun V=>V.cell? ⟨nb,i,none⟩=some (.int .i64 num)∧FBox V xb d.x d.mi.ev d.mi.pv d.sv∧True) (HS12.out _ Br.drew) fun wd' hwd' hS=> ?_
       have HB12:=Lh (show Below v2.heap.size v2 wd' by rw[hwd'];exact Br.drew);clear hwd';refine T 0 hS ?_;refine T 1 hS ?_;refine T 2 hS ?_;refine T 3 hS ?_;refine T 4 hS ?_;refine U 5 fun K' hK=> ?_
       rw[if_pos (by rfl)];refine wp_load_mid 52 _ rfl xb 0 rfl _ _ hS.2.1.range Tryz.underlying52 rfl (fz_sizeL _ _ _ _) ?_;rw[Array.toArray_toList];refine V hK hS ?_;clear hK K';have HTd:=Lh (htd wd' HB12.out);refine U 6 fun K' hK=> ?_
       go_simp;go_at_call 26;refine HTd.out.mono ?_;rintro r v3 (⟨he,rfl,hb3⟩|⟨he,_⟩)
       ·have HI3:=Lh ((HI2.out.below HB12.out).below hb3);have hS3:v3.cell? ⟨nb,i,none⟩=some (.int .i64 num)∧FBox v3 xb d.x d.mi.ev d.mi.pv d.sv∧True:=⟨HCl.out _ HI3.out.nb,HXx.out _ HI3.out.p.bel,trivial⟩;have HRk3:=Lh (show b.c.rb=rk from HRk.out);have HS13x:Hid (∀V,TwI w3 V h.p h.l kb rb nb one two a b K→V.cell? ⟨nb,i,none⟩=some (.int .i64 num)∧V.cell? ⟨rb,0,none⟩=some (.pointer (some ⟨rk,0,none⟩))∧True):=Lh fun V hV=>⟨HCl.out _ hV.nb,by rw[←hV.kr,←HRk3.out];exact hV.p.d.cells.1,trivial⟩
        have HS13:Hid (∀V,Below v3.heap.size v3 V→V.cell? ⟨nb,i,none⟩=some (.int .i64 num)∧V.cell? ⟨rb,0,none⟩=some (.pointer (some ⟨rk,0,none⟩))∧True):=Lh fun V hV=>HS13x.out V (HI3.out.below hV)
        clear he hb3 HTd HI2 HS12 HB12 htd;generalize thErr mb K num d.x=gE at*;refine V hK hS3 ?_;clear hK K';refine T 7 hS3 ?_;refine T 8 hS3 ?_;refine T 9 hS3 ?_;refine T 10 hS3 ?_;refine T 11 hS3 ?_;refine wpAnyH_done (by kernel_rfl) ?_ _;clear hS3 hS;go_wp2_with fail;refine B (fun V=>V.cell? ⟨nb,i,none⟩=some (.int .i64 num)∧V.cell? ⟨rb,0,none⟩=some (.pointer (some ⟨rk,0,none⟩))∧True) (HS13.out _ Br.drew) fun w8 hw8 hS=> ?_
        have HI8:=Lh (show TwI w3 w8 h.p h.l kb rb nb one two a b K by rw[hw8];exact HI3.out.below Br.drew);have HB8:=Lh (show Below v3.heap.size v3 w8 by rw[hw8];exact Br.drew);clear hw8 HI3;refine T 0 hS ?_;refine T 1 hS ?_;refine T 2 hS ?_;refine T 3 hS ?_;refine T 4 hS ?_;refine T 5 hS ?_;refine T 6 hS ?_;refine T 7 hS ?_;refine T 8 hS ?_;refine T 9 hS ?_;refine T 10 hS ?_;refine T 11 hS ?_;refine T 12 hS ?_;refine T 13 hS ?_;have HI9:=HI8;have hS9:=hS;clear HI8;refine TN 14 hS9 ?_;refine TN 15 hS9 ?_;refine TN 16 hS9 ?_;refine TN 17 hS9 ?_;refine T 18 hS9 ?_;refine T 19 hS9 ?_;refine T 20 hS9 ?_;refine T 21 hS9 ?_;refine T 24 hS9 ?_;refine T 25 hS9 ?_;refine T 26 hS9 ?_;refine T 27 hS9 ?_;refine U 22 fun K' hK=> ?_
        go_simp;go_at_call 23;have hcp:=Kl.caps HI9.out.p.p;rw[HI9.out.ka] at hcp;refine hcp.mono ?_;rintro r v9 ⟨rfl,rfl⟩;refine V hK hS9 ?_;clear hK K';refine U 23 fun K' hK=> ?_
        go_simp;go_at_call 28;refine(Ca.free HI9.out.p.p.caps (by have h1:=HI9.out.hp;have h2:=HHd.out.1;omega)).mono ?_;rintro r v9 ⟨rfl,hb9⟩;have HIa:=Lh (HI9.out.below hb9);have hSa:=HS13x.out v9 HIa.out;clear hb9 hcp HI9 hS9 hS;refine V hK hSa ?_;clear hK K';refine U 28 fun K' hK=> ?_
        go_simp;go_at_call 29;have hfr:=Rc.free HIa.out.p.d.caps;rw[HRk3.out] at hfr;refine hfr.mono ?_;rintro r v10 ⟨rfl,hb10⟩;have HIb:=Lh (HIa.out.below hb10);have hSb:=HS13x.out v10 HIb.out;clear hb10 hfr HIa hSa;refine V hK hSb ?_;clear hK K';refine T 29 hSb ?_;refine T 30 hSb ?_;refine T 31 hSb ?_;refine T 32 hSb ?_;refine T 34 hSb ?_;refine T 35 hSb ?_;refine T 36 hSb ?_;refine T 37 hSb ?_;refine T 39 hSb ?_;refine T 40 hSb ?_;refine T 41 hSb ?_;refine T 42 hSb ?_;refine T 43 hSb ?_;refine T 44 hSb ?_;refine T 45 hSb ?_;refine T 46 hSb ?_;refine U 33 fun K' hK=> ?_
        go_simp;go_at_call 23;have hcp:=Kl.caps HIb.out.p.p;rw[HIb.out.ka] at hcp;refine hcp.mono ?_;rintro r v11 ⟨rfl,rfl⟩;refine V hK hSb ?_;clear hK K';refine U 38 fun K' hK=> ?_
        go_simp;go_at_call 30;refine(Ca.left HIb.out.p.p.caps HNn.out).mono ?_;rintro r v11 ⟨rfl,hb11⟩;have HIc:=Lh (HIb.out.below hb11);have hSc:=HS13x.out v11 HIc.out;clear hb11 hcp HIb hSb;refine V hK hSc ?_;clear hK K';refine U 47 fun K' hK=> ?_
        go_simp;go_at_call 31;have hlf:=Rc.left HIc.out.p.d.caps num;rw[HRk3.out] at hlf;refine hlf.mono ?_;rintro r v12 ⟨rfl,hb12⟩;have HIe:=Lh (HIc.out.below hb12);have hSe:=HS13x.out v12 HIe.out;clear hb12 hlf HIc hSc;refine V hK hSe ?_;clear hK K';refine T 48 hSe ?_;refine T 49 hSe ?_;refine wpAnyH_done (by kernel_rfl) ?_ _;clear hSe;go_wp2;exact⟨⟨i+1,a,b,K,by omega,by go_num,HIe.out⟩,by simp[intOf];omega⟩
       ·exact absurd he HHe.out
      ·have HHe:=Lh he;have hp1:=HI1.out.p;obtain⟨g1,g2,g3,g4⟩:=TwI.prog hp1 HI1.out.nb HI1.out.ta hs2;have HG:=Lh (And.intro g1 (And.intro g2 (And.intro g3 (g4.trans HI1.out.ka))));have hS2:v2.cell? ⟨nb,i,none⟩=some (.int .i64 num)∧FBox v2 xb d.x d.mi.ev d.mi.pv d.sv∧True:=⟨HCl.out _ g2,HXx.out _ g1.bel,trivial⟩;have HS12:Hid (∀V:World,Below v2.heap.size v2 V→V.cell? ⟨nb,i,none⟩=some (.int .i64 num)∧FBox V xb d.x d.mi.ev d.mi.pv d.sv∧True):=Lh fun V hV=>⟨HCl.out _ ((hV.block _ (lQ HG.out.2.1)).trans HG.out.2.1),HXx.out _ (HG.out.1.below hV).bel,trivial⟩
       have htd:∀V,Below v2.heap.size v2 V→Calls Tryz.prog 26 #[.pointer (some ⟨rb,0,none⟩),.int .i64 num,.agg (d.x.arr d.mi.ev d.mi.pv d.sv)] V (ThD V b mb K num d.x):=fun V hV=>by
        have hq:=HG.out.1.below hV;have:=thawR hq.d (by have h1:=HI1.out.hx;rw[h1];exact HHd.out.2) (HFv.out V hq.bel) HD.out.ok HMb.out (by have:=HSm.out.sp;omega) num;rw[HI1.out.kr] at this;exact this
       have HEn:=Lh hen;have HEf:=Lh (And.intro hca hef);have HV1:=Lh (show w3.heap.size≤v1.heap.size from HI1.out.p.bel.size);have HEb:Hid (∀k,e.foot A k→b.tag k=0):=Lh fun k hk=>Decidable.byContradiction fun z=>by
        have h1:=(hef k hk).1;have h2:=HI1.out.p.d.lt k z;omega
       clear he hs2 hen hca hef g1 g2 g3 g4 hp1 HTp hS1;refine V hK hS2 ?_;clear hK K';refine T 8 hS2 ?_;refine T 9 hS2 ?_;refine T 10 hS2 ?_;refine T 11 hS2 ?_;refine T 12 hS2 ?_;refine wpAnyH_done (by kernel_rfl) ?_ _;clear hS2;go_wp2_with fail;refine B (fun V=>V.cell? ⟨nb,i,none⟩=some (.int .i64 num)∧FBox V xb d.x d.mi.ev d.mi.pv d.sv∧True) (HS12.out _ Br.drew) fun wd' hwd' hS=> ?_
       have HB12:=Lh (show Below v2.heap.size v2 wd' by rw[hwd'];exact Br.drew);clear hwd';refine T 0 hS ?_;refine T 1 hS ?_;refine T 2 hS ?_;refine T 3 hS ?_;refine T 4 hS ?_;refine U 5 fun K' hK=> ?_
       rw[if_pos (by rfl)];refine wp_load_mid 52 _ rfl xb 0 rfl _ _ hS.2.1.range Tryz.underlying52 rfl (fz_sizeL _ _ _ _) ?_;rw[Array.toArray_toList];refine V hK hS ?_;clear hK K';have HTd:=Lh (htd wd' HB12.out);refine U 6 fun K' hK=> ?_
       go_simp;go_at_call 26;refine HTd.out.mono ?_;rintro r v3 (⟨he,_⟩|⟨he,b2,f,R,rfl,hs3,hre,hcr,hfo⟩)
       ·exact absurd HHe.out he
       ·have hnw:=(HB12.out.block _ (lQ HG.out.2.1)).trans HG.out.2.1;obtain⟨g1,g2,g3,g4⟩:=TwI.doc (HG.out.1.below HB12.out) hnw HI1.out.tb hs3;have HI3:Hid (TwI w3 v3 h.p h.l kb rb nb one two a2 b2 (thKn K num d.x)):=Lh ⟨g1,HG.out.2.2.2,g4.trans HI1.out.kr,HI1.out.hp,HI1.out.hx,HG.out.2.2.1,g3,g2⟩;have hS3:v3.cell? ⟨nb,i,none⟩=some (.int .i64 num)∧FBox v3 xb d.x d.mi.ev d.mi.pv d.sv∧True:=⟨HCl.out _ HI3.out.nb,HXx.out _ HI3.out.p.bel,trivial⟩;have HRk3:=Lh (show b2.c.rb=rk from hs3.same.2.1.trans HRk.out);have HEq:=Lh (And.intro HEf.out.1 hcr);have hen3:Env v3 e (thF num d.x A):=(HEn.out.below HB12.out).keep hs3.mod fun k hk q=>q.1 (HEb.out k hk)
        have HEp3:Hid (EPair w3 v3 e (thF num d.x A) f R (thF num d.x (rpgs R))):=Lh ⟨hen3,hre,fun k hk q=>by
         have h1:=(HEn.out.below HB12.out).lt k hk;have h2:=(hfo k q).1;omega,HI3.out.p.bel,fun k hk=>Nat.le_trans HV1.out (HEf.out.2 k hk).1,fun k hk=>by
         have h1:=(hfo k hk).1;have h2:=HB12.out.size;have h3:=HG.out.1.bel.size;omega⟩
        have HS13x:Hid (∀V,TwI w3 V h.p h.l kb rb nb one two a2 b2 (thKn K num d.x)→V.cell? ⟨nb,i,none⟩=some (.int .i64 num)∧V.cell? ⟨rb,0,none⟩=some (.pointer (some ⟨rk,0,none⟩))∧True):=Lh fun V hV=>⟨HCl.out _ hV.nb,by rw[←hV.kr,←HRk3.out];exact hV.p.d.cells.1,trivial⟩
        have HS13:Hid (∀V,Below v3.heap.size v3 V→V.cell? ⟨nb,i,none⟩=some (.int .i64 num)∧V.cell? ⟨rb,0,none⟩=some (.pointer (some ⟨rk,0,none⟩))∧True):=Lh fun V hV=>HS13x.out V (HI3.out.below hV)
        clear he hs3 hre hcr hfo hnw g1 g2 g3 g4 hen3 HTd HG HS12 HB12 htd HEn HEf HEb HI1;refine V hK hS3 ?_;clear hK K';refine T 7 hS3 ?_;refine T 8 hS3 ?_;refine T 9 hS3 ?_;refine T 10 hS3 ?_;refine T 11 hS3 ?_;refine wpAnyH_done (by kernel_rfl) ?_ _;clear hS3 hS;go_wp2_with fail;refine B (fun V=>V.cell? ⟨nb,i,none⟩=some (.int .i64 num)∧V.cell? ⟨rb,0,none⟩=some (.pointer (some ⟨rk,0,none⟩))∧True) (HS13.out _ Br.drew) fun w8 hw8 hS=> ?_
        have HI8:=Lh (show TwI w3 w8 h.p h.l kb rb nb one two a2 b2 (thKn K num d.x) by rw[hw8];exact HI3.out.below Br.drew);have HB8:=Lh (show Below v3.heap.size v3 w8 by rw[hw8];exact Br.drew);have HEp:=Lh (show EPair w3 w8 e (thF num d.x A) f R (thF num d.x (rpgs R)) by rw[hw8];exact HEp3.out.below Br.drew);clear hw8 HI3 HEp3;refine T 0 hS ?_;refine T 1 hS ?_;refine T 2 hS ?_;refine T 3 hS ?_;refine T 4 hS ?_;refine T 5 hS ?_;refine T 6 hS ?_;refine T 7 hS ?_;refine T 8 hS ?_;refine T 9 hS ?_;refine T 10 hS ?_;refine T 11 hS ?_;refine T 12 hS ?_;refine T 13 hS ?_;refine T 14 hS ?_;refine T 15 hS ?_;refine U 16 fun K' hK=> ?_
        go_simp;go_at_call 27;refine(Cp.sameE HEp.out (like_thF HEq.out.1 HEq.out.2)).mono ?_;rintro r w9 ⟨rfl,hb9⟩;have HI9:=Lh (HI8.out.below hb9);have hS9:=HS13.out w9 (bQ HB8.out hb9);clear hb9 HI8 HB8;refine V hK hS9 ?_;clear hK K';refine T 17 hS9 ?_;refine T 18 hS9 ?_;refine T 19 hS9 ?_;refine T 20 hS9 ?_;refine T 21 hS9 ?_;refine T 24 hS9 ?_;refine T 25 hS9 ?_;refine T 26 hS9 ?_;refine T 27 hS9 ?_;refine U 22 fun K' hK=> ?_
        go_simp;go_at_call 23;have hcp:=Kl.caps HI9.out.p.p;rw[HI9.out.ka] at hcp;refine hcp.mono ?_;rintro r v9 ⟨rfl,rfl⟩;refine V hK hS9 ?_;clear hK K';refine U 23 fun K' hK=> ?_
        go_simp;go_at_call 28;refine(Ca.free HI9.out.p.p.caps (by have h1:=HI9.out.hp;have h2:=HHd.out.1;omega)).mono ?_;rintro r v9 ⟨rfl,hb9⟩;have HIa:=Lh (HI9.out.below hb9);have hSa:=HS13x.out v9 HIa.out;clear hb9 hcp HI9 hS9 hS;refine V hK hSa ?_;clear hK K';refine U 28 fun K' hK=> ?_
        go_simp;go_at_call 29;have hfr:=Rc.free HIa.out.p.d.caps;rw[HRk3.out] at hfr;refine hfr.mono ?_;rintro r v10 ⟨rfl,hb10⟩;have HIb:=Lh (HIa.out.below hb10);have hSb:=HS13x.out v10 HIb.out;clear hb10 hfr HIa hSa;refine V hK hSb ?_;clear hK K';refine T 29 hSb ?_;refine T 30 hSb ?_;refine T 31 hSb ?_;refine T 32 hSb ?_;refine T 34 hSb ?_;refine T 35 hSb ?_;refine T 36 hSb ?_;refine T 37 hSb ?_;refine T 39 hSb ?_;refine T 40 hSb ?_;refine T 41 hSb ?_;refine T 42 hSb ?_;refine T 43 hSb ?_;refine T 44 hSb ?_;refine T 45 hSb ?_;refine T 46 hSb ?_;refine U 33 fun K' hK=> ?_
        go_simp;go_at_call 23;have hcp:=Kl.caps HIb.out.p.p;rw[HIb.out.ka] at hcp;refine hcp.mono ?_;rintro r v11 ⟨rfl,rfl⟩;refine V hK hSb ?_;clear hK K';refine U 38 fun K' hK=> ?_
        go_simp;go_at_call 30;refine(Ca.left HIb.out.p.p.caps HNn.out).mono ?_;rintro r v11 ⟨rfl,hb11⟩;have HIc:=Lh (HIb.out.below hb11);have hSc:=HS13x.out v11 HIc.out;clear hb11 hcp HIb hSb;refine V hK hSc ?_;clear hK K';refine U 47 fun K' hK=> ?_
        go_simp;go_at_call 31;have hlf:=Rc.left HIc.out.p.d.caps num;rw[HRk3.out] at hlf;refine hlf.mono ?_;rintro r v12 ⟨rfl,hb12⟩;have HIe:=Lh (HIc.out.below hb12);have hSe:=HS13x.out v12 HIe.out;clear hb12 hlf HIc hSc;refine V hK hSe ?_;clear hK K';refine T 48 hSe ?_;refine T 49 hSe ?_;refine wpAnyH_done (by kernel_rfl) ?_ _;clear hSe;go_wp2;exact⟨⟨i+1,a2,b2,thKn K num d.x,by omega,by go_num,HIe.out⟩,by simp[intOf];omega⟩
     ·obtain rfl:i=2:=by omega
      have ii:¬((2:Nat):Int)<2:=by omega
      have HBe:=Lh hI.p.bel;clear hI;go_wp2_with fail;refine(alive42 _).mono ?_;rintro r w9 ⟨rfl,hb9⟩;have HEnd:=Lh (HPQ.out w9 (bQ HBz.out (bQ HBe.out hb9)));clear hb9 HPQ;go_wp2
      first|exact HEnd.out|(go_ret;exact HEnd.out)
end Go.Proofs.YtehihecknhcggaaGreat.Fz
