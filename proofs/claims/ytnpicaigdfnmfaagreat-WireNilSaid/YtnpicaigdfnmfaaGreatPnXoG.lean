/- XoG, XoH, XoI, PbA, PbB, PbC, PbD, PbE in one text. -/
import Derived.Test.YtnpicaigdfnmfaaGreatPnR22N
import Derived.Test.YtnpicaigdfnmfaaGreatPnRegT
import Derived.Deep.MidRow
import Derived.Maps.OwnSet
import Derived.Test.YtnpicaigdfnmfaaGreatPnZa
set_option linter.unusedVariables false
set_option linter.unusedSimpArgs false
set_option maxRecDepth 100000
set_option maxHeartbeats 16000000
open Go.Proofs.Tryz
namespace Go.Proofs.YtnpicaigdfnmfaaGreat
open Go.RowKit
namespace Ex
variable {w w':World} {xb kb:Nat} {S:Nat→Slt} {tv:Value}
theorem cpuS(h:Ex w xb kb S tv)(n:Nat)(n1:1≤n)(n8:n≤8)(hs:(S n).is=true){e:EAt}{E:En}(he:(S n).env=some e.eb)(hen:Env w e E):Calls Tryz.prog 29 #[.pointer (some ⟨xb,0,none⟩),.int .i64 n] w fun r w'=>r=.returned (.pointer (some ⟨e.cb,0,none⟩))∧w=w':=by
 have HO:=Lh (h.of n n1 n8 hs);have HE:=Lh hen;have HEe:=Lh he;clear h hen he;go_enter func29,ntmps29;go_wp2_with fail;refine HO.out.mono ?_;rintro r w1 ⟨rfl,rfl⟩;rw[HEe.out];go_wp2_with fail;refine(Ev.cpu HE.out).mono ?_;rintro r w1 ⟨rfl,rfl⟩;go_wp2;go_ret;exact⟨rfl,rfl⟩
theorem spaceS(h:Ex w xb kb S tv)(n:Nat)(n1:1≤n)(n8:n≤8)(hs:(S n).is=true){e:EAt}{E:En}(he:(S n).env=some e.eb)(hen:Env w e E):Calls Tryz.prog 25 #[.pointer (some ⟨xb,0,none⟩),.int .i64 n] w fun r w'=>r=.returned (.pointer (some ⟨e.sb,0,none⟩))∧w=w':=by
 have HO:=Lh (h.of n n1 n8 hs);have HE:=Lh hen;have HEe:=Lh he;clear h hen he;go_enter func25,ntmps25;go_wp2_with fail;refine HO.out.mono ?_;rintro r w1 ⟨rfl,rfl⟩;rw[HEe.out];go_wp2_with fail;refine(Ev.space HE.out).mono ?_;rintro r w1 ⟨rfl,rfl⟩;go_wp2;go_ret;exact⟨rfl,rfl⟩
end Ex
namespace Px
variable {w0 w v w':World} {xb rb sb:Nat} {S S' D D':Nat→Slt} {tv dv:Value} {a a':KAt} {K K' L L':Kn} {b b':RkAt}
theorem xo(h:Px w0 w xb S tv a K rb sb D dv b L)(m:Mod (fun k=>k=xb) w w')(hx:Ex w' xb a.kb S' tv):Px w0 w' xb S' tv a K rb sb D dv b L:=
 h.prog (KStep.refl h.k) m hx (h.k.keep m fun k hk q=>hk (q▸h.n1.1))
theorem dx(h:Px w0 w xb S tv a K rb sb D dv b L)(m:Mod (fun k=>k=sb) w w')(hd:Dx w' rb sb b.kb D' dv):Px w0 w' xb S tv a K rb sb D' dv b L:=
 h.doc (RkStep.refl h.l) m hd (h.l.keep m fun k hk q=>hk (q▸h.n2.2.2))
theorem side{F:Nat→Prop}(h:Px w0 w xb S tv a K rb sb D dv b L)(m:Mod F w w')(h1:∀k,F k→a.tag k=0∧b.tag k=0∧k≠xb∧k≠rb∧k≠sb∧w0.heap.size≤k):Px w0 w' xb S tv a K rb sb D dv b L:=
 { h with x:=h.x.mod m fun q=>(h1 _ q).2.2.1 rfl,k:=h.k.keep m fun k hk q=>hk (h1 k q).1,d:=h.d.mod m (fun q=>(h1 _ q).2.2.2.1 rfl) fun q=>(h1 _ q).2.2.2.2.1 rfl,l:=h.l.keep m fun k hk q=>hk (h1 k q).2.1,bel:=Mod.below h.bel m h.bel.size fun k _ q=>(h1 k q).2.2.2.2.2 }
theorem new(h:Px w0 w xb S tv a K rb sb D dv b L){k:Nat}(hk:w.heap.size≤k):a.tag k=0∧b.tag k=0∧k≠xb∧k≠rb∧k≠sb∧w0.heap.size≤k:=by
 have h1:=lQ h.x.blk;have h2:=lQ h.d.blk;have h3:=lQ h.d.row;have h4:=h.bel.size;exact⟨Decidable.byContradiction fun z=>by have:=h.k.lt _ z;omega,Decidable.byContradiction fun z=>by have:=h.l.lt _ z;omega,by omega,by omega,by omega,by omega⟩
end Px
theorem below_drawn{B:Nat}{v w:World}(h:Below B v w)(n:Nat):Below B v (w.drewN n):=h.trans ⟨rfl,rfl,rfl,Nat.le_refl _,fun _ _=>rfl⟩
theorem cores_len{A B:List Pg}(h:cores A=cores B):A.length=B.length:=by
 have:=congrArg List.length h;unfold cores at this
 simpa using this
theorem rpgs_len(R:List Rp):(rpgs R).length=R.length:=by
 unfold rpgs
 simp
namespace L23
def StartR(w0 w:World)(xb:Nat)(S:Nat→Slt)(tv:Value)(a:KAt)(K:Kn)(rb sb:Nat)(D:Nat→Slt)(dv:Value)(b:RkAt)(L:Kn)(pg:Int)(x:Cp.St)(r:Ending)(w':World):Prop:=
 r=.returned (.bool true)∧Below w.heap.size w w∧
 (
  (pg<(x.pgs.length:Int)∧Px w0 w' xb S tv a K rb sb D dv b L)∨
  ((x.pgs.length:Int)≤pg∧∃e C fb,Px w0 w' xb (Ex.upd S 1 ⟨true,pg,some e.eb⟩) tv a K rb sb (Ex.upd D 1 ⟨true,pg,some fb⟩) dv b L∧Env w' e { En.new 1 x.pc C with r:=x.regs }∧cores C=cores x.pgs∧∀k,e.foot C k→w.heap.size≤k))
def sRel(w9:World)(e:EAt)(E:En)(fc:Nat)(r:Nat→Int)(vi:Value)(wr:World):Prop:=
 ∃i:Nat,1≤i∧i≤16∧vi=.int .i64 i∧Env wr e { E with r:=Cp.regsK r i }∧(∃rd pc,Cpu 198 wr fc rd pc)∧Mod (fun k=>k=e.cb∨k=fc) w9 wr
theorem start{w0 w:World}{xb rb sb:Nat}{S D:Nat→Slt}{tv dv:Value}{a:KAt}{K L:Kn}{b:RkAt}(h:Px w0 w xb S tv a K rb sb D dv b L){pg:Int}(hS:S 1=⟨true,pg,none⟩)(hD:D 1=⟨true,pg,none⟩)(x:Cp.St)(hx:∀V,Below w.heap.size w V→x.ok V)(dod n:Int)(m:Mn)(eo po:Option Addr)(ec pc:Nat)(t:ByteArray):
  Calls Tryz.prog 95 #[.pointer (some ⟨xb,0,none⟩),.pointer (some ⟨rb,0,none⟩),.agg (stpA dod 1 n m (.slice eo m.ext.length ec) (.slice po m.ports.length pc) x t)] w (StartR w0 w xb S tv a K rb sb D dv b L pg x):=by
 have HFin1:=Lh fun V (g1:pg<(x.pgs.length:Int)) (g2:Px w0 V xb S tv a K rb sb D dv b L)=>(show StartR w0 w xb S tv a K rb sb D dv b L pg x (.returned (.bool true)) V from⟨rfl,Below.refl _ _,.inl ⟨g1,g2⟩⟩)
 have HFin2:=Lh fun V (g1:(x.pgs.length:Int)≤pg) (g2:∃e C fb,Px w0 V xb (Ex.upd S 1 ⟨true,pg,some e.eb⟩) tv a K rb sb (Ex.upd D 1 ⟨true,pg,some fb⟩) dv b L∧Env V e { En.new 1 x.pc C with r:=x.regs }∧cores C=cores x.pgs∧∀k,e.foot C k→w.heap.size≤k)=>(show StartR w0 w xb S tv a K rb sb D dv b L pg x (.returned (.bool true)) V from⟨rfl,Below.refl _ _,.inr ⟨g1,g2⟩⟩)
 generalize StartR w0 w xb S tv a K rb sb D dv b L pg x=PQ at*;have hA:=(Below.refl w.heap.size w).alloc (Nat.le_refl _) (.cells (stpA dod 1 n m (.slice eo m.ext.length ec) (.slice po m.ports.length pc) x t) 124);have hn:=heap_alloc_new w (.cells (stpA dod 1 n m (.slice eo m.ext.length ec) (.slice po m.ports.length pc) x t) 124);obtain⟨w1,hw1⟩:∃y,w.alloc (.cells (stpA dod 1 n m (.slice eo m.ext.length ec) (.slice po m.ports.length pc) x t) 124)=y:=⟨_,rfl⟩;obtain⟨tb,htb⟩:∃y,w.heap.size=y:=⟨_,rfl⟩;rw[hw1] at hA hn;have hpc:=hx w Br;have HPc:=Lh (And.intro hpc.p0 hpc.p1);have h1:=h.below hA;have HSz:=Lh hA.size;have HNw:=Lh fun k (hk:w.heap.size≤k)=>h.new hk
 have HOk:=Lh fun V (hV:Below w1.heap.size w1 V)=>hx V (bQ hA hV)
 rw[htb] at hn;have HP1:=Lh h1;have HN:=Lh hn;have HSD:=Lh (And.intro hS hD);have HTb:=Lh htb;have HCl:Hid (∀V:World,V.heap[tb]? =some (.cells (stpA dod 1 n m (.slice eo m.ext.length ec) (.slice po m.ports.length pc) x t) 124 (0,0))→(V.cell? ⟨tb,1,none⟩=some (.int .i64 1)∧V.cell? ⟨tb,8,none⟩=some (.int .u32 x.pc)∧True)∧V.cell? ⟨tb,7,none⟩=some (.slice x.ra x.rn x.rcap)∧V.cell? ⟨tb,9,none⟩=some (.slice x.pa x.pn x.pcap)∧V.cell? ⟨tb,10,none⟩=some (.int .u16 x.at')∧V.cell? ⟨tb,11,none⟩=some (.slice x.ca x.cn x.ccap)∧V.cell? ⟨tb,12,none⟩=some (.int .u16 x.wh)∧V.cell? ⟨tb,13,none⟩=some (.string x.text)):=Lh fun V hV=>⟨⟨stpA_cells hV 1 _ rfl,stpA_cells hV 8 _ rfl,trivial⟩,stpA_cells hV 7 _ rfl,stpA_cells hV 9 _ rfl,stpA_cells hV 10 _ rfl,stpA_cells hV 11 _ rfl,stpA_cells hV 12 _ rfl,stpA_cells hV 13 _ rfl⟩
 obtain⟨⟨c1,c8,_⟩,c7,c9,c10,c11,c12,c13⟩:=HCl.out w1 hn;have hmd:=Cp.made w1 x (HOk.out w1 Br);unfold Cp.St.cells at hmd;have HMd:=Lh hmd;have HXL:=Lh (And.intro (lQ h.x.blk) (And.intro (lQ h.d.blk) (lQ h.d.row)));clear h hS hD hx hA hn h1 hpc hmd;unfold stpA at hw1⊢;go_enter func95,ntmps95;go_wp2_with fail;try rw[hw1]
 try rw[htb]
 clear hw1 htb;refine HMd.out.mono ?_;rintro r w2 ⟨cb,sp,mb,A,db,rp,lv,R,rfl,hdu,he,hpg⟩;have hal:A.length=x.pgs.length:=cores_len hpg;have hrl:R.length=x.pgs.length:=by rw[←hal,cores_len he,rpgs_len]
 have HP2:=Lh (HP1.out.below hdu.bel);have HDu:=Lh hdu;have HLen:=Lh (And.intro hal hrl);have HCo:=Lh (And.intro he hpg);have hn2:=(hdu.bel.block _ (lQ HN.out)).trans HN.out;have HN2:=Lh hn2;have hS2:=(HCl.out w2 hn2).1;clear hdu he hpg hal hrl hn2 HMd c1 c7 c8 c9 c10 c11 c12 c13 HP1;have HO2:Hid (∀k,w1.heap.size≤k→w.heap.size≤k):=Lh fun k hk=>Nat.le_trans HSz.out hk
 by_cases hl:pg<(x.pgs.length:Int)
 ·have h1:(pg:Int)<(A.length:Int):=by rw[HLen.out.1];exact hl
  have h2:(pg:Int)<(R.length:Int):=by rw[HLen.out.2];exact hl
  have HX1:=Lh fun V (hV:Below w2.heap.size w2 V)=>Ex.start_full (HP2.out.below hV).x 1 (by omega) (by omega) (by rw[HSD.out.1]) (by rw[HSD.out.1]) (HDu.out.below hV).pair.sp (by rw[HSD.out.1];exact h1) x.pc
  have HX2:=Lh fun V (hV:Below w2.heap.size w2 V)=>Dx.start (HP2.out.below hV).d HSD.out.2 (HDu.out.below hV).pair.rp x.pc HPc.out.1 HPc.out.2
  go_upto_region 2 with(fail);refine B (fun V=>V.cell? ⟨tb,1,none⟩=some (.int .i64 1)∧V.cell? ⟨tb,8,none⟩=some (.int .u32 x.pc)∧True) hS2 fun wd hwd hS=> ?_
  have HBd:=Lh (show Below w2.heap.size w2 wd by rw[hwd];exact Br.drew);clear hwd hS2;refine T 0 hS ?_;refine T 1 hS ?_;refine T 2 hS ?_;refine T 3 hS ?_;refine T 4 hS ?_;refine T 5 hS ?_;refine T 6 hS ?_;refine T 7 hS ?_;refine T 8 hS ?_;refine T 9 hS ?_;refine T 11 hS ?_;refine T 12 hS ?_;refine T 13 hS ?_;refine T 14 hS ?_;refine T 15 hS ?_;refine T 16 hS ?_;refine T 17 hS ?_;refine U 10 fun K' hK=> ?_
  go_simp;go_at_call 46;refine(HX1.out wd HBd.out).mono ?_;rintro r v1 ⟨rfl,hb1⟩;have HB1:=Lh (bQ HBd.out hb1);have hS:=(HCl.out v1 ((HB1.out.block _ (lQ HN2.out)).trans HN2.out)).1;clear hb1;refine V hK hS ?_;clear hK K';refine U 18 fun K' hK=> ?_
  go_simp;go_at_call 144;refine(HX2.out v1 HB1.out).mono ?_;rintro r v2 (⟨_,rfl,hb2⟩|⟨q,_⟩)
  ·have HB2:=Lh (bQ HB1.out hb2);have hS:=(HCl.out v2 ((HB2.out.block _ (lQ HN2.out)).trans HN2.out)).1;clear hb2;refine V hK hS ?_;clear hK K';refine T 19 hS ?_;refine T 20 hS ?_;refine wpAnyH_done (by kernel_rfl) ?_ _;obtain⟨c1,c8,_⟩:=hS;have hde:Calls Tryz.prog 22 #[.pointer (some ⟨rb,0,none⟩),.int .i64 1] v2 fun e w'=>e=.returned (.pointer none)∧v2=w':=by
    have:=(HP2.out.below HB2.out).d.env 1 (by omega) (by omega) (by rw[HSD.out.2]);rw[HSD.out.2] at this;exact this
   have HDe:=Lh hde;have HEnd:=Lh fun V (hV:Below v2.heap.size v2 V)=>HFin1.out V hl ((HP2.out.below HB2.out).below hV)
   clear hde HX1 HX2 HFin1 HFin2;go_wp2_with fail;refine HDe.out.mono ?_;rintro r v3 ⟨rfl,rfl⟩;go_upto_region 5 with(fail);go_quiet (fail);have HEnd:=Lh (HEnd.out _ (below_drawn Br nq));go_wp2
   first|exact HEnd.out|(go_ret;exact HEnd.out)
  ·omega
 ·have h1:(A.length:Int)≤pg:=by rw[HLen.out.1];omega
  have h2:(R.length:Int)≤pg:=by rw[HLen.out.2];omega
  have hle:(x.pgs.length:Int)≤pg:=by omega
  have HX1:=Lh fun V (hV:Below w2.heap.size w2 V)=>Ex.start (HP2.out.below hV).x 1 (by omega) (by omega) (by rw[HSD.out.1]) (by rw[HSD.out.1]) (HDu.out.below hV).pair.sp (by rw[HSD.out.1];exact h1) x.pc HPc.out.1 HPc.out.2
  go_upto_region 2 with(fail);refine B (fun V=>V.cell? ⟨tb,1,none⟩=some (.int .i64 1)∧V.cell? ⟨tb,8,none⟩=some (.int .u32 x.pc)∧True) hS2 fun wd hwd hS=> ?_
  have HBd:=Lh (show Below w2.heap.size w2 wd by rw[hwd];exact Br.drew);clear hwd hS2;refine T 0 hS ?_;refine T 1 hS ?_;refine T 2 hS ?_;refine T 3 hS ?_;refine T 4 hS ?_;refine T 5 hS ?_;refine T 6 hS ?_;refine T 7 hS ?_;refine T 8 hS ?_;refine T 9 hS ?_;refine T 11 hS ?_;refine T 12 hS ?_;refine T 13 hS ?_;refine T 14 hS ?_;refine T 15 hS ?_;refine T 16 hS ?_;refine T 17 hS ?_;refine U 10 fun K' hK=> ?_
  go_simp;go_at_call 46;refine(HX1.out wd HBd.out).mono ?_;rintro r v1 ⟨e,C,rfl,hxe,hen,hcc,hef,hm1⟩;have e1:({ S 1 with env:=some e.eb }:Slt)=⟨true,pg,some e.eb⟩:=by rw[HSD.out.1]
  rw[e1] at hxe;have hpd:=HP2.out.below HBd.out;have hp3:=hpd.xo hm1 hxe;have hxl:=lQ HP2.out.x.blk;have hsl:=lQ HP2.out.d.row;have hz1:=HDu.out.bel.size;have hz2:=HBd.out.size;have hz3:=hm1.size;have htl:tb<w1.heap.size:=lQ HN.out;have hxb:xb<w.heap.size∧rb<w.heap.size∧sb<w.heap.size∧tb=w.heap.size:=⟨HXL.out.1,HXL.out.2.1,HXL.out.2.2,HTb.out.symm⟩;have hrp3:Rsp v1 rp lv R:=(HDu.out.below HBd.out).pair.rp.keep hm1 fun k hk q=>by
   have:=HDu.out.r0 k hk;have:=HSz.out;omega
  have hn3:=(hm1.block tb (by omega) (by omega)).trans ((HBd.out.block _ (lQ HN2.out)).trans HN2.out);have hdp3:Cpu 198 v1 db x.regs x.pc:=(HDu.out.below HBd.out).dp.keep hm1 (by have:=HDu.out.d0;have:=HSz.out;omega);have HP3:=Lh hp3;have HN3:=Lh hn3;have HEn:=Lh (And.intro hen (And.intro hcc hef));have HDp3:=Lh hdp3;have HXb:=Lh hxb;have HZ:=Lh (And.intro hz1 (And.intro hz2 hz3));have hX2:=Dx.start hp3.d HSD.out.2 hrp3 x.pc HPc.out.1 HPc.out.2;have HX2:=Lh hX2;have hS:=(HCl.out v1 hn3).1;clear hxe hen hcc hef hm1 e1 hpd hp3 hxl hsl hz1 hz2 hz3 htl hxb hrp3 hn3 hdp3 hX2 HX1 HFin1;refine V hK hS ?_;clear hK K';refine U 18 fun K' hK=> ?_
  go_simp;go_at_call 144;refine HX2.out.mono ?_;rintro r v2 (⟨q,_⟩|⟨_,rfl,f,Q,hdx,hfn,hfc,hff,hm2⟩)
  ·omega
  have hz4:=hm2.size;obtain⟨hz1,hz2,hz3⟩:=HZ.out;obtain⟨x1,x2,x3,x4⟩:=HXb.out;have hefl:∀k,e.foot C k→wd.heap.size≤k∧k<v1.heap.size:=fun k hk=>⟨HEn.out.2.2 k hk,HEn.out.1.lt k hk⟩
  have hdb:w1.heap.size≤db∧db<w2.heap.size:=⟨HDu.out.d0,HDu.out.dp.lt⟩;have hsz:=HSz.out;have hecb:=hefl e.cb (.inr (.inl rfl));have hfcb:v1.heap.size≤f.cb:=hff _ (.inr (.inl rfl));have hfeb:v1.heap.size≤f.eb:=hff _ (.inl rfl);have hp4:=HP3.out.dx hm2 hdx;have hen4:Env v2 e (En.new 1 x.pc C):=HEn.out.1.keep hm2 fun k hk q=>by have:=hefl k hk;omega
  have hdp4:Cpu 198 v2 db x.regs x.pc:=HDp3.out.keep hm2 (by omega);have hn4:=(hm2.block tb (lQ HN3.out) (by omega)).trans HN3.out;have HR:=Lh (And.intro hz1 (And.intro hz2 (And.intro hz3 (And.intro hz4 (And.intro hdb (And.intro hsz (And.intro hecb (And.intro hfcb hfeb))))))));have HP4:=Lh hp4;have HE4:=Lh hen4;have HF4:=Lh hfn;have HD4:=Lh hdp4;have HN4:=Lh hn4;have hS:=(HCl.out v2 hn4).1;have hde:Calls Tryz.prog 22 #[.pointer (some ⟨rb,0,none⟩),.int .i64 1] v2 fun e w'=>e=.returned (.pointer (some ⟨f.eb,0,none⟩))∧v2=w':=hp4.d.env 1 (by omega) (by omega) rfl
  have HDe:=Lh hde;clear hfc hff hdx hfn hm2 hz4 hz1 hz2 hz3 x1 x2 x3 x4 hefl hdb hsz hecb hfcb hfeb hp4 hen4 hdp4 hn4 hde HX2 HP3 HN3 HDp3;refine V hK hS ?_;clear hK K';refine T 19 hS ?_;refine T 20 hS ?_;refine wpAnyH_done (by kernel_rfl) ?_ _;obtain⟨c1,c8,_⟩:=hS;go_wp2_with fail;refine HDe.out.mono ?_;rintro r v3 ⟨rfl,rfl⟩;have d2:v2.cell? ⟨f.eb,2,none⟩=some (.pointer (some ⟨f.cb,0,none⟩)):=HF4.out.cell 2 _ rfl;have d3:v2.cell? ⟨f.eb,3,none⟩=some (.int .u8 2):=HF4.out.cell 3 _ rfl;have d16:v2.cell? ⟨f.cb,16,none⟩=some (.int .u32 x.pc):=HF4.out.cp.cellPc;go_upto_region 5 with(fail);go_quiet (fail);clear d3 d16 c8;have HC1:Hid (∀V,Below v2.heap.size v2 V→V.cell? ⟨tb,1,none⟩=some (.int .i64 1)):=Lh fun V hV=>(World.cell?_of_block (hV.block _ (lQ HN4.out))).trans c1
  have hcp:∀V,Below v2.heap.size v2 V→Calls Tryz.prog 29 #[.pointer (some ⟨xb,0,none⟩),.int .i64 1] V fun r w'=>r=.returned (.pointer (some ⟨e.cb,0,none⟩))∧V=w':=fun V hV=>Ex.cpuS (HP4.out.below hV).x 1 (by omega) (by omega) rfl rfl (HE4.out.below hV)
  have HCp:=Lh hcp;clear hcp;go_wp2_with fail;have HBn:=Lh (below_drawn (Below.refl v2.heap.size v2) nq);refine(HCp.out _ HBn.out).mono ?_;rintro r v3 ⟨rfl,rfl⟩;generalize v2.drewN nq=v3 at*;have HCC:=Lh (show cores C=cores x.pgs from HEn.out.2.1.trans HCo.out.2);have HE4f:Hid (∀k,e.foot C k→wd.heap.size≤k∧k<v1.heap.size):=Lh fun k hk=>⟨HEn.out.2.2 k hk,HEn.out.1.lt k hk⟩
  have HP9:=Lh (HP4.out.below HBn.out);have HE9:=Lh (HE4.out.below HBn.out);have HF9:=Lh (HF4.out.below HBn.out);have HD9:=Lh (HD4.out.below HBn.out);have HN9:=Lh ((HBn.out.block _ (lQ HN4.out)).trans HN4.out);clear HP4 HE4 HF4 HD4 HN4 HC1 HCp c1 d2 HDe HP2 HN2 HDu HN HEn;have HZ9:=Lh HBn.out.size;clear HBn;go_wp2_with fail;go_loopw [13] (fun vi wr=>sRel v3 e (En.new 1 x.pc C) f.cb (fun i=>Cp.rg x.regs i) vi wr) (fun vi _=>16 - (intOf vi).toNat)
  case atStart=>exact⟨1,Nat.le_refl _,by omega,by go_num,HE9.out,⟨_,_,HF9.out.cp⟩,Mod.refl _ _⟩
  case round=>
   obtain⟨i,hi1,hi2,rfl,hen,⟨rd,pcd,hcf⟩,hm⟩:=hrel;have HEn:=Lh hen;have HCf:=Lh hcf;have HM:=Lh hm;clear hen hcf hm;obtain⟨hz1,hz2,hz3,hz4,hdb,hsz,hecb,hfcb,hfeb⟩:=HR.out;obtain⟨x1,x2,x3,x4⟩:=HXb.out;have hfne:f.eb≠f.cb:=HF9.out.ec;have hmv:=HM.out.size;have hdp:Cpu 198 wr db x.regs x.pc:=HD9.out.keep HM.out fun q=>by omega
   have hbx:wr.heap[tb]? =_:=(HM.out.block tb (lQ HN9.out) fun q=>by omega).trans HN9.out;have hfb:wr.heap[f.eb]? =_:=(HM.out.block f.eb (lQ HF9.out.blk) fun q=>by omega).trans HF9.out.blk;have hpx:Px w0 wr xb (Ex.upd S 1 ⟨true,pg,some e.eb⟩) tv a K rb sb (Ex.upd D 1 ⟨true,pg,some f.eb⟩) dv b L:=HP9.out.side HM.out fun k q=>HNw.out k (by omega)
   have HPx:=Lh hpx;have HDp:=Lh hdp;have HFb:=Lh hfb;have HBx:=Lh hbx;have HNe:=Lh (show db≠e.cb∧db≠f.cb∧tb≠e.cb∧tb≠f.cb∧e.cb≠f.cb∧w.heap.size≤f.cb∧w.heap.size≤e.cb from⟨by omega,by omega,by omega,by omega,by omega,by omega,by omega⟩);have HEf:=Lh fun k (hk:e.foot C k) (q:k=f.cb)=>(show False from by have:=HE4f.out k hk;omega)
   clear hz1 hz2 hz3 hz4 hdb hsz hecb hfcb hfeb x1 x2 x3 x4 hfne hmv hbx hfb hpx
   by_cases hin:i<16
   ·have hbd:=Cp.rg_bd hdp.regs (i:Int);have HBd':=Lh hbd;clear hdp hbd;have hi16:(i:Int)<16:=by omega
    have hi0:(0:Int)≤(i:Int):=by omega
    have it:((i:Int)).toNat=i:=by omega
    have iw:IntKind.i64.wrap (i:Int)=(i:Int):=by rw[IntKind.wrap_i64];omega
    obtain⟨v,hv⟩:∃y,Cp.rg x.regs i=y:=⟨_,rfl⟩;have HvR:=Lh hv;have HFc:Hid (∀W:World,W.heap[f.eb]? =wr.heap[f.eb]? →W.cell? ⟨f.eb,2,none⟩=some (.pointer (some ⟨f.cb,0,none⟩))):=Lh fun W hW=>by
     unfold World.cell?;rw[hW,HFb.out];rfl
    have HX:Hid (∀W,Below wr.heap.size wr W→(W.cell? ⟨f.eb,2,none⟩=some (.pointer (some ⟨f.cb,0,none⟩))∧W.cell? ⟨db,i,none⟩=some (.int .u32 v)∧True)∧W.frozen? ⟨f.cb,i,none⟩=false∧(∃q,W.cell? ⟨f.cb,i,none⟩=some q)∧(let W':=W.setCell ⟨f.cb,i,none⟩ (.int .u32 v);(W'.cell? ⟨f.eb,2,none⟩=some (.pointer (some ⟨f.cb,0,none⟩))∧W'.cell? ⟨db,i,none⟩=some (.int .u32 v)∧True)∧W'.cell? ⟨tb,1,none⟩=some (.int .i64 1)∧Cpu 198 W' db x.regs x.pc∧Env W' e { En.new 1 x.pc C with r:=Cp.regsK (fun i=>Cp.rg x.regs i) i }∧(∃rd pc,Cpu 198 W' f.cb rd pc)∧Mod (fun k=>k=e.cb∨k=f.cb) v3 W'∧Px w0 W' xb (Ex.upd S 1 ⟨true,pg,some e.eb⟩) tv a K rb sb (Ex.upd D 1 ⟨true,pg,some f.eb⟩) dv b L)):=Lh fun W hW=>by
     have g1:=HCf.out.below hW;have g2:=HDp.out.below hW;have g3:=(hW.block _ (lQ HBx.out)).trans HBx.out;have g4:=hW.block f.eb (lQ HFb.out);have hm:Mod (fun k=>k=f.cb) W (W.setCell ⟨f.cb,i,none⟩ (.int .u32 v)):=Mod.setCell (F:=fun k=>k=f.cb) (Mod.refl _ _) ⟨f.cb,i,none⟩ (.inl rfl) _;have g5:=g1.setReg i hin v (by rw[←HvR.out];exact HBd'.out.1) (by rw[←HvR.out];exact HBd'.out.2);have g6:Cpu 198 (W.setCell ⟨f.cb,i,none⟩ (.int .u32 v)) db x.regs x.pc:=g2.keep hm HNe.out.2.1;have hfl:=lQ HFb.out;have g7:=(hm.block f.eb (Nat.lt_of_lt_of_le hfl hW.size) HF9.out.ec).trans g4;refine⟨⟨HFc.out W g4,by rw[←HvR.out];exact g2.cellReg i hin,trivial⟩,g1.thaw i,⟨_,g1.cellReg i hin⟩,⟨HFc.out _ g7,(g6.cellReg i hin).trans (by rw[HvR.out]),trivial⟩,((HCl.out _ ((hm.block tb (lQ g3) HNe.out.2.2.2.1).trans g3)).1).1,g6,(HEn.out.below hW).keep hm (fun k hk q=>HEf.out k hk q),⟨_,_,g5⟩,(HM.out.trans (Mod.of_below hW fun _=>False) fun _ _ z=>z.elim).trans hm fun k _ q=>.inl (.inr q),(HPx.out.below hW).side hm fun k q=>HNw.out k (q▸HNe.out.2.2.2.2.2.1)⟩
    have hS:=(HX.out wr.drew Br.drew).1;clear hv;go_wp2_with fail;refine B (fun V=>V.cell? ⟨f.eb,2,none⟩=some (.pointer (some ⟨f.cb,0,none⟩))∧V.cell? ⟨db,i,none⟩=some (.int .u32 v)∧True) hS ?_;intro wd' hwd' hS;obtain⟨_,d1,⟨dq,d2⟩,d3⟩:=HX.out wd' (by subst hwd';exact Br.drew);obtain⟨d4,d5⟩:=d3;have HS4:=Lh d4;have HS5:=Lh d5;clear hwd' HX d4 d5;refine T 0 hS ?_;refine T 1 hS ?_;refine T 2 hS ?_;refine T 3 hS ?_;refine T 4 hS ?_;refine T 5 hS ?_;refine T 6 hS ?_;refine T 7 hS ?_;refine T 8 hS ?_;refine T 9 hS ?_;refine T 10 hS ?_;refine T 11 hS ?_;refine T 12 hS ?_;refine T 13 hS ?_;clear hS;refine U 14 fun K' hK=> ?_
    go_simp;refine V hK HS4.out ?_;clear hK K';refine wpAnyH_done (by kernel_rfl) ?_ _;clear d1 d2 dq;generalize wd'.setCell ⟨f.cb,i,none⟩ (.int .u32 v)=w5 at*;have hS:w5.cell? ⟨tb,1,none⟩=some (.int .i64 1)∧w5.cell? ⟨db,i,none⟩=some (.int .u32 v)∧True:=⟨HS5.out.1,HS4.out.2.1,trivial⟩;go_wp2_with fail;refine B (fun V=>V.cell? ⟨tb,1,none⟩=some (.int .i64 1)∧V.cell? ⟨db,i,none⟩=some (.int .u32 v)∧True) hS ?_;intro w6 hw6 hS;have HB6:=Lh (show Below w5.heap.size w5 w6 by rw[hw6];exact Br.drew);clear hw6;refine T 0 hS ?_;refine T 1 hS ?_;refine T 2 hS ?_;refine T 4 hS ?_;refine T 5 hS ?_;refine T 6 hS ?_;refine T 7 hS ?_;refine T 8 hS ?_;refine T 9 hS ?_;refine T 10 hS ?_;refine U 3 fun K' hK=> ?_
    go_simp;go_at_call 29;refine(Ex.cpuS (HS5.out.2.2.2.2.2.below HB6.out).x 1 (by omega) (by omega) rfl rfl (HS5.out.2.2.1.below HB6.out)).mono ?_;rintro r w7 ⟨rfl,rfl⟩;refine V hK hS ?_;clear hK K';refine U 11 fun K' hK=> ?_
    go_simp;go_at_call 79;refine(Cp.setReg_ok (HS5.out.2.2.1.below HB6.out).cp i hin v (by rw[←HvR.out];exact HBd'.out.1) (by rw[←HvR.out];exact HBd'.out.2)).mono ?_;rintro r w7 ⟨rfl,hc7,hm7⟩;have he7:Env w7 e { En.new 1 x.pc C with r:=Cp.regsK (fun i=>Cp.rg x.regs i) (i+1) }:=by
     have:=(EStep.regs (HS5.out.2.2.1.below HB6.out) hc7 hm7).env;rw[←Cp.regsK_succ _ i hin]
     show Env w7 e { En.new 1 x.pc C with r:=Cp.putG (Cp.regsK (fun i=>Cp.rg x.regs i) i) i (Cp.rg x.regs i) }
     rw[HvR.out];exact this
    have hf7:∃rd pc,Cpu 198 w7 f.cb rd pc:=by
     obtain⟨rd',pc',g⟩:=HS5.out.2.2.2.1;exact⟨rd',pc',(g.below HB6.out).keep hm7 fun q=>HNe.out.2.2.2.2.1 q.symm⟩
    have hm77:Mod (fun k=>k=e.cb∨k=f.cb) v3 w7:=(HS5.out.2.2.2.2.1.trans (Mod.of_below HB6.out fun _=>False) fun _ _ z=>z.elim).trans hm7 fun k _ q=>.inl (.inl q)
    have hS7:w7.cell? ⟨tb,1,none⟩=some (.int .i64 1)∧w7.cell? ⟨db,i,none⟩=some (.int .u32 v)∧True:=⟨Ex.cellM hm7 hS.1 HNe.out.2.2.1,Ex.cellM hm7 hS.2.1 HNe.out.1,trivial⟩;have HE7:Hid (sRel v3 e (En.new 1 x.pc C) f.cb (fun i=>Cp.rg x.regs i) (.int .i64 ((i+1:Nat):Int)) w7):=Lh ⟨i+1,by omega,by omega,rfl,he7,hf7,hm77⟩;clear he7 hf7 hm77 hc7 hm7 hS HS5 HS4;refine V hK hS7 ?_;clear hK K';refine T 12 hS7 ?_;refine wpAnyH_done (by kernel_rfl) ?_ _;clear hS7;go_wp2;refine⟨?_,by simp[intOf];omega⟩;have:=HE7.out;rw[show((i+1:Nat):Int)=(i:Int)+1 by omega] at this;exact this
   ·obtain rfl:i=16:=by omega
    have hreg:Cp.regsK (fun i=>Cp.rg x.regs i) 16=x.regs:=Cp.regsK_regs x.regs hdp.regs.len (by
     unfold Cp.St.regs Cp.regsK;rfl)
    have hen:=HEn.out;rw[hreg] at hen;have HEnd:=Lh (HFin2.out wr hle ⟨e,C,f.eb,HPx.out,hen,HCC.out,fun k hk=>by have h1:=HE4f.out k hk;have h2:=HR.out;omega⟩);clear hen hreg hdp HFin2;go_wp2
    first|exact HEnd.out|(go_ret;exact HEnd.out)
end L23
namespace L23
theorem does1{w0 w:World}{xb rb sb:Nat}{S D:Nat→Slt}{tv dv:Value}{a:KAt}{K L:Kn}{b:RkAt}(h:Px w0 w xb S tv a K rb sb D dv b L){pg:Int}(hS:S 1=⟨true,pg,none⟩)(hD:D 1=⟨true,pg,none⟩)(x:Cp.St)(hx:∀V,Below w.heap.size w V→x.ok V)(n:Int)(m:Mn)(eo po:Option Addr)(ec pc:Nat)(t:ByteArray):
  Calls Tryz.prog 53 #[.pointer (some ⟨xb,0,none⟩),.pointer (some ⟨rb,0,none⟩),.agg (stpA 1 1 n m (.slice eo m.ext.length ec) (.slice po m.ports.length pc) x t)] w (StartR w0 w xb S tv a K rb sb D dv b L pg x):=by
 have HFin:=Lh fun r V (g:StartR w0 (w.alloc (.cells (stpA 1 1 n m (.slice eo m.ext.length ec) (.slice po m.ports.length pc) x t) 124)) xb S tv a K rb sb D dv b L pg x r V)=>(show StartR w0 w xb S tv a K rb sb D dv b L pg x r V from⟨g.1,Below.refl _ _,g.2.2.imp id fun⟨g1,e,C,fb,g2,g3,g4,g5⟩=>⟨g1,e,C,fb,g2,g3,g4,fun k hk=>Nat.le_trans ((Below.refl w.heap.size w).alloc (Nat.le_refl _) (.cells (stpA 1 1 n m (.slice eo m.ext.length ec) (.slice po m.ports.length pc) x t) 124)).size (g5 k hk)⟩⟩)
 have HR1:=Lh fun r V (g:StartR w0 w xb S tv a K rb sb D dv b L pg x r V)=>g.1
 generalize StartR w0 w xb S tv a K rb sb D dv b L pg x=PQ at*;have hA:=(Below.refl w.heap.size w).alloc (Nat.le_refl _) (.cells (stpA 1 1 n m (.slice eo m.ext.length ec) (.slice po m.ports.length pc) x t) 124);have hn:=heap_alloc_new w (.cells (stpA 1 1 n m (.slice eo m.ext.length ec) (.slice po m.ports.length pc) x t) 124);obtain⟨w1,hw1⟩:∃y,w.alloc (.cells (stpA 1 1 n m (.slice eo m.ext.length ec) (.slice po m.ports.length pc) x t) 124)=y:=⟨_,rfl⟩;obtain⟨tb,htb⟩:∃y,w.heap.size=y:=⟨_,rfl⟩;rw[hw1] at hA hn HFin;rw[htb] at hn;have HP1:=h.below hA;have HSt:=Lh (start (HP1) hS hD x (fun V hV=>hx V (bQ hA hV)) 1 n m eo po ec pc t);obtain⟨c0,c1,c2,c3,c4,c5,c6,c7,c8,c9,c10,c11,c12,c13,c14⟩:w1.cell? ⟨tb,0,none⟩=some (.int .i64 1)∧w1.cell? ⟨tb,1,none⟩=some (.int .i64 1)∧w1.cell? ⟨tb,2,none⟩=some (.int .i64 n)∧w1.cell? ⟨tb,3,none⟩=some (.int .u32 m.pages)∧w1.cell? ⟨tb,4,none⟩=some (.slice eo m.ext.length ec)∧w1.cell? ⟨tb,5,none⟩=some (.slice po m.ports.length pc)∧w1.cell? ⟨tb,6,none⟩=some (.bool m.con)∧w1.cell? ⟨tb,7,none⟩=some (.slice x.ra x.rn x.rcap)∧w1.cell? ⟨tb,8,none⟩=some (.int .u32 x.pc)∧w1.cell? ⟨tb,9,none⟩=some (.slice x.pa x.pn x.pcap)∧w1.cell? ⟨tb,10,none⟩=some (.int .u16 x.at')∧w1.cell? ⟨tb,11,none⟩=some (.slice x.ca x.cn x.ccap)∧w1.cell? ⟨tb,12,none⟩=some (.int .u16 x.wh)∧w1.cell? ⟨tb,13,none⟩=some (.string x.text)∧w1.cell? ⟨tb,14,none⟩=some (.string t):=⟨stpA_cells hn 0 _ rfl,stpA_cells hn 1 _ rfl,stpA_cells hn 2 _ rfl,stpA_cells hn 3 _ rfl,stpA_cells hn 4 _ rfl,stpA_cells hn 5 _ rfl,stpA_cells hn 6 _ rfl,stpA_cells hn 7 _ rfl,stpA_cells hn 8 _ rfl,stpA_cells hn 9 _ rfl,stpA_cells hn 10 _ rfl,stpA_cells hn 11 _ rfl,stpA_cells hn 12 _ rfl,stpA_cells hn 13 _ rfl,stpA_cells hn 14 _ rfl⟩;clear h hS hD hx hA hn HP1;unfold stpA at hw1 HSt⊢;go_enter func53,ntmps53;go_wp2_with fail;try rw[hw1]
 try rw[htb]
 clear hw1 htb;refine HSt.out.mono ?_;rintro r w2 hr;have HE:=Lh (HFin.out _ _ hr);obtain rfl:=HR1.out _ _ HE.out;clear hr HFin HR1 HSt;go_wp2
 first|exact HE.out|(go_ret;exact HE.out)
end L23
namespace Pr
theorem results_one{P:Program}{fn:Func}{c:Nat}{t:TypeId}{p:Addr}{tmps:Array Value}{v:Value}{w:World}(hr:fn.results= #[.cell c t])(ha:tmps.getD c undef=.pointer (some p))(hv:(loadVar t p).run P w=.ok v w):
  (results fn tmps).run P w=.ok v w:=by
 rw[Array.getD_eq_getD_getElem?] at ha;unfold results;rw[hr,←hv];simp[go_sem,ha]
theorem load2{w:World}{b:Nat}{x y:Value}(h:w.heap[b]? =some (.cells #[x,y] 120 (0,0))):(loadVar 120 ⟨b,0,none⟩).run Tryz.prog w=.ok (.agg #[x,y]) w:=by
 have hr:w.rangeAt b 0 [x,y]:=fun j v hv=>by
  rw[Nat.zero_add];unfold World.cell?;rw[h]
  match j,hv with
  |0,hv=>cases hv;rfl
  |1,hv=>cases hv;rfl
  |j+2,hv=>simp at hv
 have:=run_loadVar_mid (P:=Tryz.prog) w b 0 120 _ _ hr Tryz.underlying120 rfl (by kernel_rfl);exact this
def HardR(w:World)(r:Ending)(w':World):Prop:=∃g,r=.returned (.agg #[.int .u32 60,.slice (some ⟨g,0,none⟩) 2 2])∧Rs.Words w' (some ⟨g,0,none⟩) [6,6]∧w.heap.size≤g∧g<w'.heap.size∧Below w.heap.size w w'
theorem hard(w:World):Calls Tryz.prog 51 #[] w (HardR w):=by
 go_enter func51,ntmps51;go_wp2;obtain⟨wa,hwa⟩:∃y,w.alloc (.cells #[.int .u32 60,.slice (some ⟨w.heap.size+1,0,none⟩) 2 2] 120)=y:=⟨_,rfl⟩;have g1:wa.heap[w.heap.size]? =some (.cells #[.int .u32 60,.slice (some ⟨w.heap.size+1,0,none⟩) 2 2] 120 (0,0)):=by rw[←hwa];exact heap_alloc_new w _
 have g2:wa.heap.size=w.heap.size+1:=by rw[←hwa];simp
 have g3:Below w.heap.size w wa:=by rw[←hwa];exact(Below.refl w.heap.size w).alloc (Nat.le_refl _) _
 rw[hwa];have g4:=(Below.refl wa.heap.size wa).alloc (Nat.le_refl _) (.cells #[.int .u32 6,.int .u32 6] 42);have h1:=(g4.block _ (lQ g1)).trans g1;have h2:=heap_alloc_new wa (.cells #[.int .u32 6,.int .u32 6] 42);rw[g2] at h2;refine bodyPost_ret (results_one Tryz.results51 rfl (load2 h1)) rfl ⟨w.heap.size+1,rfl,⟨fun i hi=>⟨_,0,rfl, ?_⟩,by decide⟩,by omega,lQ h2,bQ g3 g4⟩;unfold World.cell?;rw[h2]
 match i,hi with
 |0,_=>rfl
 |1,_=>rfl
 |i+2,hi=>exact absurd hi (by simp)
def m0:Mn:=⟨2,[],[],true⟩
def mz:Mn:=⟨0,[],[],false⟩
def zx:Cp.St:=⟨none,0,0,fun _=>0,0,none,0,0,fun _=>0,0,none,0,0,fun _=>⟨0,0,0,0,0⟩,0, { data:= #[] }⟩
def two(x:Cp.St):Array Value:= #[.int .i64 0,.int .i64 0,.int .i64 8,.int .u32 2,.slice none 0 0,.slice none 0 0,.bool true,.slice none 0 0,.int .u32 0,.slice none 0 0,.int .u16 0,.slice none 0 0,.int .u16 0,.string { data:= #[] },.string { data:= #[] },.int .i64 1,.int .i64 1,.int .i64 0,.int .u32 0,.slice none 0 0,.slice none 0 0,.bool false,.slice x.ra x.rn x.rcap,.int .u32 x.pc,.slice x.pa x.pn x.pcap,.int .u16 x.at',.slice x.ca x.cn x.ccap,.int .u16 x.wh,.string x.text,.string { data:= #[] }]
def OneR(w:World)(x:Cp.St)(r:Ending)(w':World):Prop:=∃lb,r=.returned (.slice (some ⟨lb,0,none⟩) 2 2)∧w'.heap[lb]? =some (.cells (two x) 124 (0,0))∧w.heap.size≤lb∧Below w.heap.size w w'
theorem one(w:World)(x:Cp.St):Calls Tryz.prog 20 #[.agg x.cells] w (OneR w x):=by
 have hA:=(Below.refl w.heap.size w).alloc (Nat.le_refl _) (.cells x.cells 46);have hbx:Cp.StBox (w.alloc (.cells x.cells 46)) w.heap.size x:=⟨heap_alloc_new w _⟩;obtain⟨b0,b1,b2,b3,b4,b5,b6⟩:=hbx.cells;have HFin:Hid (∀V b,V.heap.size=b→Below w.heap.size w V→OneR w x (.returned (.slice (some ⟨b,0,none⟩) 2 2)) (V.alloc (.cells (two x) 124))):=Lh fun V b hb hV=>⟨b,rfl,by rw[←hb];exact heap_alloc_new V _,by rw[←hb];exact hV.size,hV.alloc hV.size _⟩
 unfold two at HFin;generalize OneR w x=PQ at*;obtain⟨w1,hw1⟩:∃y,w.alloc (.cells x.cells 46)=y:=⟨_,rfl⟩;rw[hw1] at hA b0 b1 b2 b3 b4 b5 b6;have HA:=Lh hA;clear hA hbx;unfold Cp.St.cells at hw1⊢;go_enter func20,ntmps20;go_wp2;have HF:=Lh (HFin.out w1 _ rfl HA.out);clear HFin b0 b1 b2 b3 b4 b5 b6 hw1 HA
 first|exact HF.out|(go_ret;exact HF.out)
end Pr
namespace Pr
def k43:Kn:=Kn.new 60 [6,6]
def k44:Kn:= { k43 with g:=Gp.upd k43.g 1 (some ⟨m0,8,0⟩) }
def s43(o:Option Nat):Nat→Slt:=Ex.upd (Ex.upd (fun _=>⟨false,0,none⟩) 1 ⟨true,8,none⟩) 1 ⟨true,8,o⟩
def BegunR(w:World)(x:Cp.St)(r:Ending)(w':World):Prop:=
 ∃xb a rb sb b,r=.returned (.tuple #[.pointer (some ⟨xb,0,none⟩),.pointer (some ⟨rb,0,none⟩)])∧
 (
  (8<(x.pgs.length:Int)∧Px w w' xb (Ex.upd (fun _=>⟨false,0,none⟩) 1 ⟨true,8,none⟩) (.slice none 0 0) a k44 rb sb (Ex.upd (fun _=>⟨false,0,none⟩) 1 ⟨true,8,none⟩) (.slice none 0 0) b k44)∨
  ((x.pgs.length:Int)≤8∧∃e C fb,Px w w' xb (s43 (some e.eb)) (.slice none 0 0) a k44 rb sb (s43 (some fb)) (.slice none 0 0) b k44∧Env w' e { En.new 1 x.pc C with r:=x.regs }∧cores C=cores x.pgs∧(∀k,e.foot C k→a.tag k=0∧k≠xb∧w.heap.size≤k)))
theorem two_at{w:World}{lb:Nat}{x:Cp.St}(h:w.heap[lb]? =some (.cells (two x) 124 (0,0)))(i:Nat)(v:Value)(hv:(two x)[i]? =some v):w.cell? ⟨lb,i,none⟩=some v:=by
 unfold World.cell?;rw[h];exact hv
theorem m0ok:m0.ok:=⟨by decide,by decide,fun x hx=>absurd hx (by simp[m0]),fun x hx=>absurd hx (by simp[m0])⟩
theorem nil_rw(w:World)(s:Nat):RwV w s (.slice none 0 0) 0 []:=⟨by simp,⟨none,0,rfl,fun i v hv=>by simp at hv⟩,by decide⟩
theorem g0:Ca.grantE 60 [6,6] (fun _=>none) 1 m0 8=0:=by decide
theorem begun{w:World}(x:Cp.St)(hx:∀V,Below w.heap.size w V→x.ok V){lb:Nat}(hl:w.heap[lb]? =some (.cells (two x) 124 (0,0))):Calls Tryz.prog 19 #[.slice (some ⟨lb,0,none⟩) 2 2] w (BegunR w x):=by
 have HFin1:=Lh fun V xb a rb sb b (g1:8<(x.pgs.length:Int)) (g2:Px w V xb (Ex.upd (fun _=>⟨false,0,none⟩) 1 ⟨true,8,none⟩) (.slice none 0 0) a k44 rb sb (Ex.upd (fun _=>⟨false,0,none⟩) 1 ⟨true,8,none⟩) (.slice none 0 0) b k44)=>(show BegunR w x (.returned (.tuple #[.pointer (some ⟨xb,0,none⟩),.pointer (some ⟨rb,0,none⟩)])) V from⟨xb,a,rb,sb,b,rfl,.inl ⟨g1,g2⟩⟩)
 have HFin2:=Lh fun V xb a rb sb b (g1:(x.pgs.length:Int)≤8) (g2:∃e C fb,Px w V xb (s43 (some e.eb)) (.slice none 0 0) a k44 rb sb (s43 (some fb)) (.slice none 0 0) b k44∧Env V e { En.new 1 x.pc C with r:=x.regs }∧cores C=cores x.pgs∧(∀k,e.foot C k→a.tag k=0∧k≠xb∧w.heap.size≤k))=>(show BegunR w x (.returned (.tuple #[.pointer (some ⟨xb,0,none⟩),.pointer (some ⟨rb,0,none⟩)])) V from⟨xb,a,rb,sb,b,rfl,.inr ⟨g1,g2⟩⟩)
 generalize BegunR w x=PQ at*;have HL:Hid (∀V,Below w.heap.size w V→V.heap[lb]? =some (.cells (two x) 124 (0,0))):=Lh fun V hV=>(hV.block _ (lQ hl)).trans hl
 have HLt:=Lh (lQ hl);have HX:=Lh hx;clear hl hx;go_enter func19,ntmps19;go_wp2_with fail;refine(hard w).mono ?_;rintro r w1 ⟨g,rfl,hw1,hg1,hg2,hb1⟩;have HB1:=Lh hb1;go_wp2_with fail;refine(Ex.new hw1 (by intro y hy;simp at hy;omega) (by omega) (by decide)).mono ?_;rintro r w2 ⟨xb,a,rfl,hx2,hk2,hax,hat,hxs,hb2⟩;have HX2:=Lh (And.intro hx2 (And.intro hk2 (And.intro hax (And.intro hat hxs))));have HB2:=Lh (bQ hb1 hb2);have HZ1:=Lh (And.intro hb1.size hb2.size);clear hb1 hx2 hk2 hax hat hxs hb2 hw1 hg1 hg2;go_wp2_with fail;refine(hard w2).mono ?_;rintro r w3 ⟨g',rfl,hw3,hg3,hg4,hb3⟩;have HB3:=Lh hb3;have HG:=Lh (And.intro hg3 hg4);go_wp2_with fail;refine(Dx.new hw3 (by intro y hy;simp at hy;omega) (by omega) (by decide) (fun k _ hk=>by cases hk;exact hg4)).mono ?_;rintro r w4 ⟨rb,sb,b,rfl,hd4,hl4,hbt,hbr,hbs,hrs,hss,hb4⟩;have hlt:∀k,b.tag k≠0→w2.heap.size≤k:=fun k hk=>by
  have h3:=HB3.out.size;rcases hbt k hk with q|⟨_,_,q⟩
  ·omega
  ·cases q;exact HG.out.1
 obtain⟨h1,h2,h3,h4,h5⟩:=HX2.out;have hs3:=HB3.out.size;obtain⟨hz1,hz2⟩:=HZ1.out;have h24:=bQ hb3 hb4;have hxl:=lQ h1.blk;have hpx:Px w w4 xb (fun _=>⟨false,0,none⟩) (.slice none 0 0) a k43 rb sb (fun _=>⟨false,0,none⟩) (.slice none 0 0) b k43:=
  {
   x:=h1.below h24,k:=h2.below h24,d:=hd4,l:=hl4,bel:=bQ HB2.out h24
   ap:=fun k hk=>Decidable.byContradiction fun z=>by have:=hlt k z;have:=h2.lt k hk;omega
   a0:=fun k hk=>by have:=h4 k hk;omega
   b0:=fun k hk=>by have:=hlt k hk.1;omega
   n1:=⟨h3,Decidable.byContradiction fun z=>by have:=h2.lt _ z;omega,Decidable.byContradiction fun z=>by have:=h2.lt _ z;omega⟩
   n2:=⟨Decidable.byContradiction fun z=>by have:=hlt _ z;omega,hbr,hbs⟩
   n3:=⟨by omega,by omega⟩
   z:=⟨by omega,by omega,by omega⟩ }
 have HP:=Lh hpx;clear hpx hxl h24 hz1 hz2 hs3 h1 h2 h3 h4 h5 hlt hd4 hl4 hbt hbr hbs hrs hss hb3 hb4 hw3 hg3 hg4 HX2 HB1 HB2 HB3 HZ1 HG;have HCA:Hid (∀V,Below w.heap.size w V→V.cell? ⟨lb,0,none⟩=some (.int .i64 0)∧V.cell? ⟨lb,1,none⟩=some (.int .i64 0)∧V.cell? ⟨lb,2,none⟩=some (.int .i64 8)∧V.cell? ⟨lb,3,none⟩=some (.int .u32 2)∧V.cell? ⟨lb,4,none⟩=some (.slice none 0 0)∧V.cell? ⟨lb,5,none⟩=some (.slice none 0 0)∧V.cell? ⟨lb,6,none⟩=some (.bool true)∧V.cell? ⟨lb,7,none⟩=some (.slice none 0 0)∧V.cell? ⟨lb,8,none⟩=some (.int .u32 0)∧V.cell? ⟨lb,9,none⟩=some (.slice none 0 0)∧V.cell? ⟨lb,10,none⟩=some (.int .u16 0)∧V.cell? ⟨lb,11,none⟩=some (.slice none 0 0)∧V.cell? ⟨lb,12,none⟩=some (.int .u16 0)∧V.cell? ⟨lb,13,none⟩=some (.string { data:= #[] })∧V.cell? ⟨lb,14,none⟩=some (.string { data:= #[] })):=Lh fun V hV=>⟨two_at (HL.out V hV) 0 _ rfl,two_at (HL.out V hV) 1 _ rfl,two_at (HL.out V hV) 2 _ rfl,two_at (HL.out V hV) 3 _ rfl,two_at (HL.out V hV) 4 _ rfl,two_at (HL.out V hV) 5 _ rfl,two_at (HL.out V hV) 6 _ rfl,two_at (HL.out V hV) 7 _ rfl,two_at (HL.out V hV) 8 _ rfl,two_at (HL.out V hV) 9 _ rfl,two_at (HL.out V hV) 10 _ rfl,two_at (HL.out V hV) 11 _ rfl,two_at (HL.out V hV) 12 _ rfl,two_at (HL.out V hV) 13 _ rfl,two_at (HL.out V hV) 14 _ rfl⟩
 have HCB:Hid (∀V,Below w.heap.size w V→V.cell? ⟨lb,15,none⟩=some (.int .i64 1)∧V.cell? ⟨lb,16,none⟩=some (.int .i64 1)∧V.cell? ⟨lb,17,none⟩=some (.int .i64 0)∧V.cell? ⟨lb,18,none⟩=some (.int .u32 0)∧V.cell? ⟨lb,19,none⟩=some (.slice none 0 0)∧V.cell? ⟨lb,20,none⟩=some (.slice none 0 0)∧V.cell? ⟨lb,21,none⟩=some (.bool false)∧V.cell? ⟨lb,22,none⟩=some (.slice x.ra x.rn x.rcap)∧V.cell? ⟨lb,23,none⟩=some (.int .u32 x.pc)∧V.cell? ⟨lb,24,none⟩=some (.slice x.pa x.pn x.pcap)∧V.cell? ⟨lb,25,none⟩=some (.int .u16 x.at')∧V.cell? ⟨lb,26,none⟩=some (.slice x.ca x.cn x.ccap)∧V.cell? ⟨lb,27,none⟩=some (.int .u16 x.wh)∧V.cell? ⟨lb,28,none⟩=some (.string x.text)∧V.cell? ⟨lb,29,none⟩=some (.string { data:= #[] })):=Lh fun V hV=>⟨two_at (HL.out V hV) 15 _ rfl,two_at (HL.out V hV) 16 _ rfl,two_at (HL.out V hV) 17 _ rfl,two_at (HL.out V hV) 18 _ rfl,two_at (HL.out V hV) 19 _ rfl,two_at (HL.out V hV) 20 _ rfl,two_at (HL.out V hV) 21 _ rfl,two_at (HL.out V hV) 22 _ rfl,two_at (HL.out V hV) 23 _ rfl,two_at (HL.out V hV) 24 _ rfl,two_at (HL.out V hV) 25 _ rfl,two_at (HL.out V hV) 26 _ rfl,two_at (HL.out V hV) 27 _ rfl,two_at (HL.out V hV) 28 _ rfl,two_at (HL.out V hV) 29 _ rfl⟩
 have hmn:∀V,MnIn V (.slice none m0.ext.length 0) (.slice none m0.ports.length 0) m0:=fun V=>⟨nil_rw V 2,nil_rw V 1⟩
 have HD0:Hid (Calls Tryz.prog 53 #[.pointer (some ⟨xb,0,none⟩),.pointer (some ⟨rb,0,none⟩),.agg (stpA 0 0 8 m0 (.slice none 0 0) (.slice none 0 0) zx { data:= #[] })] w4 (L23.Does0 w xb (fun _=>⟨false,0,none⟩) (.slice none 0 0) k43 rb sb (fun _=>⟨false,0,none⟩) (.slice none 0 0) m0 8 a.kb b.kb)):=Lh (L23.does0 HP.out (by decide) (by decide) (hmn w4) m0ok (by decide) (by omega) (by omega) rfl rfl g0 (fun k hk=>by rcases hk with⟨h,_⟩|⟨h,_⟩<;>exact absurd rfl h) 0 zx { data:= #[] });obtain⟨c0,c1,c2,c3,c4,c5,c6,c7,c8,c9,c10,c11,c12,c13,c14⟩:=HCA.out w4 HP.out.bel;clear hmn HCA;unfold stpA zx at HD0;go_wp2_with fail;refine wp_loop_rounds 3 ?_;rw[rounds_succ];go_wp2_with fail;refine HD0.out.mono ?_;rintro r w5 ⟨rfl,a5,b5,hp5⟩;have HP5:=Lh hp5;have HD1:=Lh (L23.does1 hp5 (pg:=8) rfl rfl x (fun V hV=>HX.out V (bQ hp5.bel hV)) 0 mz none none 0 0 { data:= #[] });obtain⟨d0,d1,d2,d3,d4,d5,d6,d7,d8,d9,d10,d11,d12,d13,d14⟩:=HCB.out w5 hp5.bel;clear hp5 HD0 HP HCB c0 c1 c2 c3 c4 c5 c6 c7 c8 c9 c10 c11 c12 c13 c14;unfold stpA at HD1;go_wp2_with fail;rw[rounds_succ];go_wp2_with fail;refine HD1.out.mono ?_;rintro r w6 ⟨rfl,_,hr⟩;have HR:=Lh hr;clear hr HD1 d0 d1 d2 d3 d4 d5 d6 d7 d8 d9 d10 d11 d12 d13 d14;have hend:PQ (.returned (.tuple #[.pointer (some ⟨xb,0,none⟩),.pointer (some ⟨rb,0,none⟩)])) w6:=by
  rcases HR.out with⟨g1,g2⟩|⟨g1,e,C,fb,g2,g3,g4,g5⟩
  ·exact HFin1.out w6 xb a5 rb sb b5 g1 g2
  ·exact HFin2.out w6 xb a5 rb sb b5 g1 ⟨e,C,fb,g2,g3,g4,fun k hk=>by
    obtain⟨q1,_,q3,_,_,q6⟩:=HP5.out.new (g5 k hk);exact⟨q1,q3,q6⟩⟩
 have HEnd:=Lh hend;clear hend HFin1 HFin2 HR HP5;go_wp2;rw[rounds_succ];go_wp2
 first|exact HEnd.out|(go_ret;exact HEnd.out)
end Pr
namespace Pr
theorem plainElem_bool_inv{P:Program}{e:TypeId}(he:P.underlying e=some .bool){v:Value}{z:DataW Unit×List MemPlace}(h:plainElem P e v=some z):∃y,v=.bool y∧z=(.lit (.bool y),[]):=by
 unfold plainElem at h;rw[he] at h;cases v<;>simp at h
 exact⟨_,rfl,h.symm⟩
theorem zeroU64(w:World):(zeroValue 149).run Tryz.prog w=.ok (.int .u64 0) w:=by kernel_rfl
theorem zeroB(w:World):(zeroValue 4).run Tryz.prog w=.ok (.bool false) w:=by kernel_rfl
theorem wf_u64{x:Int}(h0:0≤x)(h1:x≤1000000):(Lit.int .u64 x).wf=true:=by simp[Lit.wf,IntKind.min,IntKind.max,IntKind.signed,IntKind.bits];omega
structure Cnt(w:World)(mb:Nat)(f:Int→Int)(n:Nat):Prop where
 map:∃D m,w.ownsMap Tryz.prog 42 (plainElem (H:=Unit) Tryz.prog 149) mb m D∧(∀x zd,D.atKey (.int .u32 x) zd=if f x=0 then zd else .lit (.int .u64 (f x)))∧Maps.size D=n
 bd:∀x,0≤f x∧f x≤999999
structure Brk(w:World)(mb:Nat)(s:Int→Bool)(n:Nat):Prop where
 map:∃D m,w.ownsMap Tryz.prog 42 (plainElem (H:=Unit) Tryz.prog 4) mb m D∧(∀x zd,D.atKey (.int .u32 x) zd=if s x=true then .lit (.bool true) else zd)∧Maps.size D=n
section
variable {w w':World} {mb n:Nat} {f:Int→Int} {s:Int→Bool}
theorem Cnt.lt(h:Cnt w mb f n):mb<w.heap.size:=by
 obtain⟨D,m,ho,_⟩:=h.map;exact ho.lt
theorem Brk.lt(h:Brk w mb s n):mb<w.heap.size:=by
 obtain⟨D,m,ho,_⟩:=h.map;exact ho.lt
theorem Cnt.mod{F:Nat→Prop}(h:Cnt w mb f n)(hm:Mod F w w')(hf:¬F mb):Cnt w' mb f n:=by
 have hl:=h.lt;obtain⟨D,m,ho,hv,hs⟩:=h.map;exact⟨⟨D,m,own_of_block ho (hm.block _ hl hf),hv,hs⟩,h.bd⟩
theorem Brk.mod{F:Nat→Prop}(h:Brk w mb s n)(hm:Mod F w w')(hf:¬F mb):Brk w' mb s n:=by
 have hl:=h.lt;obtain⟨D,m,ho,hv,hs⟩:=h.map;exact⟨⟨D,m,own_of_block ho (hm.block _ hl hf),hv,hs⟩⟩
theorem Cnt.new(w:World):Cnt (w.alloc (.map #[] 0)) w.heap.size (fun _=>0) 0:=⟨⟨_,_,World.ownsMap_made w _ _ _,fun x zd=>by simp[DataW.atKey],rfl⟩,fun x=>by omega⟩
theorem Brk.new(w:World):Brk (w.alloc (.map #[] 0)) w.heap.size (fun _=>false) 0:=⟨⟨_,_,World.ownsMap_made w _ _ _,fun x zd=>by simp[DataW.atKey],rfl⟩⟩
theorem Cnt.look(h:Cnt w mb f n)(x:Int)(h0:0≤x)(h1:x≤4294967295):(Instr.lookup 127 (.map (some mb)) (.int .u32 x) false).run Tryz.prog w=.ok (.int .u64 (f x)) w:=by
 obtain⟨D,m,ho,hv,_⟩:=h.map;obtain⟨v,ps,hrun,hR⟩:=ho.lookup (Maps.int_keyed Tryz.underlying42) Tryz.underlying127 (zeroU64 w) (zd:=.lit (.int .u64 0)) (zp:=[]) (plainElem_int Tryz.underlying149 (by decide)) (Maps.keyOf_int_mk Tryz.underlying42 (wf_u32 h0 h1));rw[hrun];rw[hv] at hR;obtain⟨y,rfl,hz,_⟩:=plainElem_int_inv Tryz.underlying149 hR
 by_cases g:f x=0
 ·rw[if_pos g] at hz;simp at hz;rw[g,hz.1]
 ·rw[if_neg g] at hz;simp at hz;rw[hz.1]
theorem Cnt.put(h:Cnt w mb f n)(x:Int)(h0:0≤x)(h1:x≤4294967295)(hf:f x<999999)(hn:n≤1000000):
  ∃w',(Instr.mapUpdate 127 (.map (some mb)) (.int .u32 x) (.int .u64 (f x+1))).run Tryz.prog w=.ok () w'∧Cnt w' mb (fun y=>if y=x then f x+1 else f y) (if f x=0 then n+1 else n)∧Mod (fun k=>k=mb) w w':=by
 obtain⟨D,m,ho,hv,hs⟩:=h.map;have ht:=own_tight ho;have hb:=h.bd x;have K:=Maps.int_keyed (P:=Tryz.prog) Tryz.underlying42;have hk:=Maps.keyOf_int_mk (P:=Tryz.prog) Tryz.underlying42 (wf_u32 h0 h1);obtain⟨w',hrun,how,htu⟩:=ht.store K Tryz.underlying127 (by rw[hs];unfold maxLen;omega) (val:=.int .u64 (f x+1)) (d:=.lit (.int .u64 (f x+1))) (ps:=[]) hk (plainElem_int Tryz.underlying149 (wf_u64 (by omega) (by omega)));have hg:=htu.grown;refine⟨w',hrun,⟨⟨_,_,how,fun y zd=> ?_, ?_⟩,fun y=> ?_⟩,⟨hg.os,hg.tape,hg.output,hg.size,fun k hk hkm=>hg.block k hk (by simpa using hkm)⟩⟩
 ·by_cases e:y=x
  ·subst e;rw[Maps.atKey_put_same ht.isMap (K.key hk),if_pos rfl,if_neg (by omega)]
  ·rw[Maps.atKey_put_other (by intro g;simp at g;exact e g),hv,if_neg e]
 ·rw[Maps.size_put (ht.tidy K),hs]
  by_cases g:f x=0
  ·have:Maps.has D (.int .u32 x)=false:=Maps.has_false_of_atKey fun z=>by rw[hv,if_pos g]
   rw[this,if_pos g];rfl
  ·have:Maps.has D (.int .u32 x)=true:=Maps.has_true_of_atKey (y:=.lit (.int .u64 (f x))) fun z=>by rw[hv,if_neg g]
   rw[this,if_neg g];rfl
 ·split
  ·omega
  ·exact h.bd y
theorem Brk.look(h:Brk w mb s n)(x:Int)(h0:0≤x)(h1:x≤4294967295):(Instr.lookup 126 (.map (some mb)) (.int .u32 x) false).run Tryz.prog w=.ok (.bool (s x)) w:=by
 obtain⟨D,m,ho,hv,_⟩:=h.map;obtain⟨v,ps,hrun,hR⟩:=ho.lookup (Maps.int_keyed Tryz.underlying42) Tryz.underlying126 (zeroB w) (zd:=.lit (.bool false)) (zp:=[]) (plainElem_bool Tryz.underlying4 _) (Maps.keyOf_int_mk Tryz.underlying42 (wf_u32 h0 h1));rw[hrun];rw[hv] at hR;obtain⟨y,rfl,hz⟩:=plainElem_bool_inv Tryz.underlying4 hR;simp only[Prod.mk.injEq] at hz;have hR:=hz.1;clear hz;cases hq:s x with
 |true=>
  rw[hq] at hR;simp at hR;rw[hR]
 |false=>
  rw[hq] at hR;simp at hR;rw[hR]
theorem Brk.put(h:Brk w mb s n)(x:Int)(h0:0≤x)(h1:x≤4294967295)(hs0:s x=false)(hn:n≤1000000):
  ∃w',(Instr.mapUpdate 126 (.map (some mb)) (.int .u32 x) (.bool true)).run Tryz.prog w=.ok () w'∧Brk w' mb (fun y=>if y=x then true else s y) (n+1)∧Mod (fun k=>k=mb) w w':=by
 obtain⟨D,m,ho,hv,hs⟩:=h.map;have ht:=own_tight ho;have K:=Maps.int_keyed (P:=Tryz.prog) Tryz.underlying42;have hk:=Maps.keyOf_int_mk (P:=Tryz.prog) Tryz.underlying42 (wf_u32 h0 h1);obtain⟨w',hrun,how,htu⟩:=ht.store K Tryz.underlying126 (by rw[hs];unfold maxLen;omega) (val:=.bool true) (d:=.lit (.bool true)) (ps:=[]) hk (plainElem_bool Tryz.underlying4 _);have hg:=htu.grown;refine⟨w',hrun,⟨⟨_,_,how,fun y zd=> ?_, ?_⟩⟩,⟨hg.os,hg.tape,hg.output,hg.size,fun k hk hkm=>hg.block k hk (by simpa using hkm)⟩⟩
 ·by_cases e:y=x
  ·subst e;rw[Maps.atKey_put_same ht.isMap (K.key hk),if_pos rfl,if_pos rfl]
  ·rw[Maps.atKey_put_other (by intro g;simp at g;exact e g),hv,if_neg e]
 ·rw[Maps.size_put (ht.tidy K),hs];have:Maps.has D (.int .u32 x)=false:=Maps.has_false_of_atKey fun z=>by rw[hv,hs0];rfl
  rw[this];rfl
theorem Brk.len(h:Brk w mb s n)(ty:TypeId):(Builtin.len_ #[126] ty #[.map (some mb)]).run Tryz.prog w=.ok (.int .i64 n) w:=by
 obtain⟨D,m,ho,_,hs⟩:=h.map;rw[←hs];exact ho.len Tryz.underlying126 ty
end
end Pr
open Go.RowKit Pag
namespace Pr
theorem break_nil(w:World)(x:Int):Calls Tryz.prog 23 #[.pointer none,.int .u32 x] w fun r w'=>r=.returned (.int .i64 1)∧w=w':=by
 go_enter func23,ntmps23;go_wp2;go_ret;exact⟨rfl,rfl⟩
theorem clear_nil(w:World)(x:Int):Calls Tryz.prog 31 #[.pointer none,.int .u32 x] w fun r w'=>r=.returned (.int .i64 1)∧w=w':=by
 go_enter func31,ntmps31;go_wp2;go_ret;exact⟨rfl,rfl⟩
theorem watch_nil(w:World)(x n:Int):Calls Tryz.prog 24 #[.pointer none,.int .u32 x,.int .i64 n] w fun r w'=>r=.returned (.int .i64 1)∧w=w':=by
 go_enter func24,ntmps24;go_wp2;go_ret;exact⟨rfl,rfl⟩
theorem counts_nil(w:World):Calls Tryz.prog 32 #[.pointer none] w fun r w'=>r=.returned (.slice none 0 0)∧w=w':=by
 go_enter func32,ntmps32;go_wp2;go_ret;exact⟨rfl,rfl⟩
theorem trail_nil(w:World):Calls Tryz.prog 28 #[.pointer none] w fun r w'=>r=.returned (.slice none 0 0)∧w=w':=by
 go_enter func28,ntmps28;go_wp2;go_ret;exact⟨rfl,rfl⟩
theorem tallies_nil(w:World)(a b:Value):Calls Tryz.prog 33 #[.pointer none,a,b] w fun r w'=>r=.returned (.slice none 0 0)∧w=w':=by
 go_enter func33,ntmps33;go_wp2;go_ret;exact⟨rfl,rfl⟩
def NewNil(w:World)(r:Ending)(w':World):Prop:=r=.returned (.tuple #[.pointer none,.int .i64 1])∧w=w'
theorem new_nil(w:World)(n:Int):Calls Tryz.prog 21 #[.pointer none,.int .i64 n] w (NewNil w):=by
 have HF:=Lh (show NewNil w (.returned (.tuple #[.pointer none,.int .i64 1])) w from⟨rfl,rfl⟩);generalize NewNil w=PQ at*;go_enter func21,ntmps21;go_wp2;exact HF.out
def hit(k a n:Int):Value:=.agg #[.int .u8 k,.int .u32 a,.int .i64 n]
theorem results_three{P:Program}{fn:Func}{c r s:Nat}{t:TypeId}{p:Addr}{tmps:Array Value}{v u x:Value}{w:World}(hr:fn.results= #[.cell c t,.tmp r,.tmp s])(ha:tmps.getD c undef=.pointer (some p))(hu:tmps.getD r undef=u)(hx:tmps.getD s undef=x)(hv:(loadVar t p).run P w=.ok v w):
  (results fn tmps).run P w=.ok (.tuple #[v,u,x]) w:=by
 rw[Array.getD_eq_getD_getElem?] at ha hu hx;have h:(results fn tmps).run P w=((loadVar t p).run P w).andThen fun a w'=>.ok (.tuple #[a,u,x]) w':=by
  unfold results;rw[hr];simp[go_sem,ha,hu,hx];cases Sem.run P (isAgg t) w with
  |ok a w'=>cases a<;>rfl
  |halt _ _=>rfl
 rw[h,hv];rfl
theorem load_hit{w:World}{b:Nat}{x y z:Value}(h:w.heap[b]? =some (.cells #[x,y,z] 65 (0,0))):(loadVar 65 ⟨b,0,none⟩).run Tryz.prog w=.ok (.agg #[x,y,z]) w:=by
 have hr:w.rangeAt b 0 [x,y,z]:=fun j v hv=>by
  rw[Nat.zero_add];unfold World.cell?;rw[h]
  match j,hv with
  |0,hv=>cases hv;rfl
  |1,hv=>cases hv;rfl
  |2,hv=>cases hv;rfl
  |j+3,hv=>simp at hv
 have:=run_loadVar_mid (P:=Tryz.prog) w b 0 65 _ _ hr Tryz.underlying65 rfl (by kernel_rfl);exact this
theorem go_nil(w:World)(n:Int):Calls Tryz.prog 27 #[.pointer none,.int .i64 n] w fun r w'=>r=.returned (.tuple #[hit 0 0 0,.int .i64 0,.int .i64 1])∧Below w.heap.size w w':=by
 go_enter func27,ntmps27;go_wp2;exact bodyPost_ret (results_three Tryz.results27 rfl rfl rfl (load_hit (heap_alloc_new w _))) rfl ⟨rfl,(Below.refl w.heap.size w).alloc (Nat.le_refl _) _⟩
structure Wt where
 seen:ByteArray
 at':Int
 n:Int
def Wt.cells(x:Wt):List Value:=[.string x.seen,.int .u32 x.at',.int .i64 x.n]
def wtC(l:List Wt):List Value:=l.flatMap Wt.cells
structure Pb(w:World)(base pb xb:Nat)(n:Int)(mb mc:Nat)(s:Int→Bool)(k:Nat)(wv:Value)(W:List Wt)(f:Int→Int)(c:Nat)(tv:Value)(Tr:List Int):Prop where
 blk:w.heap[pb]? =some (.cells #[.pointer (some ⟨xb,0,none⟩),.int .i64 n,.map (some mb),wv,.map (some mc),tv] 130 (0,0))
 bk:Brk w mb s k
 ct:Cnt w mc f c
 wr:w.ownsRow base 141 3 wv W.length (wtC W)
 tr:w.ownsRow base 42 1 tv Tr.length (Tr.map encU)
 b0:base≤pb∧base≤mb∧base≤mc
 ne:pb≠mb∧pb≠mc∧mb≠mc
 own:(∀g,wv.ownBlock=some g→g≠pb∧g≠mb∧g≠mc∧tv.ownBlock≠some g)∧∀g,tv.ownBlock=some g→g≠pb∧g≠mb∧g≠mc
def NewP(w:World)(xb:Nat)(n:Int)(r:Ending)(w':World):Prop:=
 ∃pb mb mc,r=.returned (.tuple #[.pointer (some ⟨pb,0,none⟩),.int .i64 0])∧Pb w' w.heap.size pb xb n mb mc (fun _=>false) 0 (.slice none 0 0) [] (fun _=>0) 0 (.slice none 0 0) []∧Below w.heap.size w w'
theorem new_pb(w:World)(xb:Nat)(n:Int)(x:Nat)(y:Nat)(hx:x=w.heap.size)(hy:y=w.heap.size+1):Pb (((w.alloc (.map #[] 0)).alloc (.map #[] 0)).alloc (.cells #[.pointer (some ⟨xb,0,none⟩),.int .i64 n,.map (some x),.slice none 0 0,.map (some y),.slice none 0 0] 130)) w.heap.size (w.heap.size+1+1) xb n x y (fun _=>false) 0 (.slice none 0 0) [] (fun _=>0) 0 (.slice none 0 0) []∧Below w.heap.size w (((w.alloc (.map #[] 0)).alloc (.map #[] 0)).alloc (.cells #[.pointer (some ⟨xb,0,none⟩),.int .i64 n,.map (some x),.slice none 0 0,.map (some y),.slice none 0 0] 130)):=by
 subst hx hy;have h1:=Brk.new w;have g1:=(Below.refl w.heap.size w).alloc (Nat.le_refl _) (.map #[] 0);have e1:(w.alloc (.map #[] 0)).heap.size=w.heap.size+1:=by simp
 obtain⟨w1,hw1⟩:∃z,w.alloc (.map #[] 0)=z:=⟨_,rfl⟩;rw[hw1] at h1 g1 e1⊢;have h2:=Cnt.new w1;have g2:=(Below.refl w1.heap.size w1).alloc (Nat.le_refl _) (.map #[] 0);have e2:(w1.alloc (.map #[] 0)).heap.size=w1.heap.size+1:=by simp
 obtain⟨w2,hw2⟩:∃z,w1.alloc (.map #[] 0)=z:=⟨_,rfl⟩;rw[hw2] at h2 g2 e2⊢;have h3:=heap_alloc_new w2 (.cells #[.pointer (some ⟨xb,0,none⟩),.int .i64 n,.map (some w.heap.size),.slice none 0 0,.map (some (w.heap.size+1)),.slice none 0 0] 130);have g3:=(Below.refl w2.heap.size w2).alloc (Nat.le_refl _) (.cells #[.pointer (some ⟨xb,0,none⟩),.int .i64 n,.map (some w.heap.size),.slice none 0 0,.map (some (w.heap.size+1)),.slice none 0 0] 130);have g23:=bQ g2 g3;rw[e2,e1] at h3;rw[e1] at h2;refine⟨⟨h3,h1.mod (Mod.of_below g23 fun _=>False) id,h2.mod (Mod.of_below g3 fun _=>False) id,World.ownsRow_nil _ _ _ _,World.ownsRow_nil _ _ _ _,⟨by omega,by omega,by omega⟩,⟨by omega,by omega,by omega⟩,⟨fun g hg=>(nomatch hg),fun g hg=>(nomatch hg)⟩⟩,bQ g1 g23⟩
theorem new(w:World)(xb:Nat)(n:Int){cb:Nat}(hc:∀V,Below w.heap.size w V→Calls Tryz.prog 29 #[.pointer (some ⟨xb,0,none⟩),.int .i64 n] V fun r w'=>r=.returned (.pointer (some ⟨cb,0,none⟩))∧V=w'):Calls Tryz.prog 21 #[.pointer (some ⟨xb,0,none⟩),.int .i64 n] w (NewP w xb n):=by
 have HC:=Lh hc;have HF:=Lh fun V pb mb mc g1 g2=>(show NewP w xb n (.returned (.tuple #[.pointer (some ⟨pb,0,none⟩),.int .i64 0])) V from⟨pb,mb,mc,rfl,g1,g2⟩)
 generalize NewP w xb n=PQ at*;clear hc;have hmm:= @run_makeMap Tryz.prog;go_enter func21,ntmps21;go_wp2_with fail;refine(HC.out _ Br).mono ?_;rintro r w1 ⟨rfl,rfl⟩;go_wp2;obtain⟨q1,q2⟩:=new_pb w xb n _ _ rfl rfl;exact HF.out _ _ _ _ q1 q2
def NewNo(w:World)(r:Ending)(w':World):Prop:=r=.returned (.tuple #[.pointer none,.int .i64 3])∧w=w'
theorem new_no(w:World)(xb:Nat)(n:Int)(hc:Calls Tryz.prog 29 #[.pointer (some ⟨xb,0,none⟩),.int .i64 n] w fun r w'=>r=.returned (.pointer none)∧w=w'):Calls Tryz.prog 21 #[.pointer (some ⟨xb,0,none⟩),.int .i64 n] w (NewNo w):=by
 have HC:=Lh hc;have HF:=Lh (show NewNo w (.returned (.tuple #[.pointer none,.int .i64 3])) w from⟨rfl,rfl⟩);generalize NewNo w=PQ at*;clear hc;go_enter func21,ntmps21;go_wp2_with fail;refine HC.out.mono ?_;rintro r w1 ⟨rfl,rfl⟩;go_wp2;exact HF.out
end Pr
open Go.RowKit Pag
namespace Pr
theorem wtC_snoc(T:List Wt)(t:Wt):wtC (T++[t])=wtC T++t.cells:=by
 unfold wtC;rw[List.flatMap_append,List.flatMap_cons,List.flatMap_nil,List.append_nil]
theorem info_wt:(Tryz.prog.info? 141).map (fun i=>(i.zero,i.size,i.bytes))=some (some (.agg #[.string ByteArray.empty,.int .u32 0,.int .i64 0]),3,32):=by kernel_rfl
theorem info_u32:(Tryz.prog.info? 42).map (fun i=>(i.zero,i.size,i.bytes))=some (some (.int .u32 0),1,4):=by kernel_rfl
theorem wpList_app_wt{w:World}{ops:Array Oper}{rest:List Oper}{o:Oper}{a:Act}{Q:Exit→Act→World→Prop}(hgd:o.guard=none)(s x:Operand)
  (ho:o.op=.call { callee:=.builtin .append,args:= #[s,x],argTypes:= #[128,128] }) (base:Nat) (v:Value) (T:List Wt) (hs:a.eval s=v) (h:w.ownsRow base 141 3 v T.length (wtC T)) (b:Nat) (t:Wt)
  (hx:a.eval x=.slice (some ⟨b,0,none⟩) 1 1) (hb:w.heap[b]? =some (.cells t.cells.toArray 141 (0,0))) (hl:T.length≤1000000) (hbase:base≤w.heap.size)
  (H:∀g cap w',w'.ownsRow base 141 3 (.slice (some ⟨g,0,none⟩) (T.length+1) cap) (T++[t]).length (wtC (T++[t]))→w.grownBy w' v.ownBlock→(v.ownBlock=some g∨g=w.heap.size)→wpList Tryz.prog ops Q rest (a.put o.dst (.slice (some ⟨g,0,none⟩) (T.length+1) cap)) w'):wpList Tryz.prog ops Q (o::rest) a w:=by
 obtain⟨i0,hi,hz0,hz1,hz2⟩:=info_parts info_wt;refine wpList_append_lies w hgd s x _ ho base 141 i0 (.agg #[.string ByteArray.empty,.int .u32 0,.int .i64 0]) 3 32 Tryz.underlying128 hi hz0 hz1 hz2 rfl (by omega) v T.length (wtC T) hs h ⟨b,0,none⟩ 1 1 t.cells hx rfl (World.news_of_block hb) (fun x hx=>by simp[Wt.cells] at hx;rcases hx with rfl|rfl|rfl<;>rfl) (by omega) (by unfold maxLen;omega) (by omega) hbase _ rfl fun g cap w' h2 h3 h4 h5=>H _ _ _ ?_ h3 h4
 rw[List.length_append,wtC_snoc];exact h2
theorem wpList_app_u32{w:World}{ops:Array Oper}{rest:List Oper}{o:Oper}{a:Act}{Q:Exit→Act→World→Prop}(hgd:o.guard=none)(s x:Operand)
  (ho:o.op=.call { callee:=.builtin .append,args:= #[s,x],argTypes:= #[41,41] }) (base:Nat) (v:Value) (T:List Int) (hs:a.eval s=v) (h:w.ownsRow base 42 1 v T.length (T.map encU)) (b:Nat) (t:Int)
  (hx:a.eval x=.slice (some ⟨b,0,none⟩) 1 1) (hb:w.heap[b]? =some (.cells #[.int .u32 t] 42 (0,0))) (hl:T.length≤1000000) (hbase:base≤w.heap.size)
  (H:∀g cap w',w'.ownsRow base 42 1 (.slice (some ⟨g,0,none⟩) (T.length+1) cap) (T++[t]).length ((T++[t]).map encU)→w.grownBy w' v.ownBlock→(v.ownBlock=some g∨g=w.heap.size)→wpList Tryz.prog ops Q rest (a.put o.dst (.slice (some ⟨g,0,none⟩) (T.length+1) cap)) w'):wpList Tryz.prog ops Q (o::rest) a w:=by
 obtain⟨i0,hi,hz0,hz1,hz2⟩:=info_parts info_u32;refine wpList_append_lies w hgd s x _ ho base 42 i0 (.int .u32 0) 1 4 Tryz.underlying41 hi hz0 hz1 hz2 rfl (by omega) v T.length (T.map encU) hs h ⟨b,0,none⟩ 1 1 [.int .u32 t] hx rfl (World.news_of_block hb) (fun x hx=>by simp at hx;subst hx;rfl) (by omega) (by unfold maxLen;omega) (by omega) hbase _ rfl fun g cap w' h2 h3 h4 h5=>H _ _ _ ?_ h3 h4
 rw[List.length_append,List.map_append];exact h2
section
variable {w w':World} {base pb xb mb mc k c:Nat} {n:Int} {s:Int→Bool} {wv tv:Value} {W:List Wt} {f:Int→Int} {Tr:List Int}
theorem Pb.cells(h:Pb w base pb xb n mb mc s k wv W f c tv Tr):w.cell? ⟨pb,0,none⟩=some (.pointer (some ⟨xb,0,none⟩))∧w.cell? ⟨pb,1,none⟩=some (.int .i64 n)∧w.cell? ⟨pb,2,none⟩=some (.map (some mb))∧w.cell? ⟨pb,3,none⟩=some wv∧w.cell? ⟨pb,4,none⟩=some (.map (some mc))∧w.cell? ⟨pb,5,none⟩=some tv∧∀i,w.frozen? ⟨pb,i,none⟩=false:=by
 unfold World.cell? World.frozen?;rw[h.blk];exact⟨rfl,rfl,rfl,rfl,rfl,rfl,fun i=>by simp[h.blk]⟩
def Pb.foot(pb mb mc:Nat)(wv tv:Value)(g:Nat):Prop:=g=pb∨g=mb∨g=mc∨wv.ownBlock=some g∨tv.ownBlock=some g
theorem row_lt{w:World}{base s n:Nat}{e:TypeId}{v:Value}{xs:List Value}(h:w.ownsRow base e s v n xs){g:Nat}(hg:v.ownBlock=some g):base≤g∧g<w.heap.size:=by
 rcases h.2 with⟨rfl,_⟩|⟨g',cap,cur,rfl,h1,h2,_⟩
 ·cases hg
 ·cases hg;exact⟨h1,lQ h2⟩
theorem Pb.mod{F:Nat→Prop}(h:Pb w base pb xb n mb mc s k wv W f c tv Tr)(hm:Mod F w w')(hF:∀g,Pb.foot pb mb mc wv tv g→¬F g):Pb w' base pb xb n mb mc s k wv W f c tv Tr:=
 { h with
      blk:=(hm.block _ (lQ h.blk) (hF _ (.inl rfl))).trans h.blk
      bk:=h.bk.mod hm (hF _ (.inr (.inl rfl)))
      ct:=h.ct.mod hm (hF _ (.inr (.inr (.inl rfl))))
      wr:=ownsRow_keep h.wr fun g hg=>hm.block g (row_lt h.wr hg).2 (hF g (.inr (.inr (.inr (.inl hg)))))
      tr:=ownsRow_keep h.tr fun g hg=>hm.block g (row_lt h.tr hg).2 (hF g (.inr (.inr (.inr (.inr hg))))) }
theorem Pb.below(h:Pb w base pb xb n mb mc s k wv W f c tv Tr)(hb:Below w.heap.size w w'):Pb w' base pb xb n mb mc s k wv W f c tv Tr:=h.mod (Mod.of_below hb fun _=>False) fun _ _=>id
theorem Pb.setB(h:Pb w base pb xb n mb mc s k wv W f c tv Tr){s':Int→Bool}{k':Nat}(hb:Brk w' mb s' k')(hm:Mod (fun g=>g=mb) w w'):Pb w' base pb xb n mb mc s' k' wv W f c tv Tr:=
 { h with
      blk:=(hm.block _ (lQ h.blk) h.ne.1).trans h.blk
      bk:=hb
      ct:=h.ct.mod hm fun e=>h.ne.2.2 e.symm
      wr:=ownsRow_keep h.wr fun g hg=>hm.block g (row_lt h.wr hg).2 (h.own.1 g hg).2.1
      tr:=ownsRow_keep h.tr fun g hg=>hm.block g (row_lt h.tr hg).2 (h.own.2 g hg).2.1 }
theorem Pb.setC(h:Pb w base pb xb n mb mc s k wv W f c tv Tr){f':Int→Int}{c':Nat}(hb:Cnt w' mc f' c')(hm:Mod (fun g=>g=mc) w w'):Pb w' base pb xb n mb mc s k wv W f' c' tv Tr:=
 { h with
      blk:=(hm.block _ (lQ h.blk) h.ne.2.1).trans h.blk
      ct:=hb
      bk:=h.bk.mod hm h.ne.2.2
      wr:=ownsRow_keep h.wr fun g hg=>hm.block g (row_lt h.wr hg).2 (h.own.1 g hg).2.2.1
      tr:=ownsRow_keep h.tr fun g hg=>hm.block g (row_lt h.tr hg).2 (h.own.2 g hg).2.2 }
theorem Pb.setW(h:Pb w base pb xb n mb mc s k wv W f c tv Tr){w5:World}{g l cap:Nat}{W':List Wt}(hg:w.grownBy w5 wv.ownBlock)(hr:w5.ownsRow base 141 3 (.slice (some ⟨g,0,none⟩) l cap) W'.length (wtC W'))(ho:wv.ownBlock=some g∨g=w.heap.size):w5.frozen? ⟨pb,3,none⟩=false∧w5.cell? ⟨pb,3,none⟩=some wv∧Pb (w5.setCell ⟨pb,3,none⟩ (.slice (some ⟨g,0,none⟩) l cap)) base pb xb n mb mc s k (.slice (some ⟨g,0,none⟩) l cap) W' f c tv Tr∧Mod (fun q=>q=pb∨wv.ownBlock=some q) w (w5.setCell ⟨pb,3,none⟩ (.slice (some ⟨g,0,none⟩) l cap)):=by
 have m1:Mod (fun q=>wv.ownBlock=some q) w w5:=⟨hg.os,hg.tape,hg.output,hg.size,fun q hq hn=>hg.block q hq fun e=>hn e.symm⟩;have m2:Mod (fun q=>q=pb) w5 (w5.setCell ⟨pb,3,none⟩ (.slice (some ⟨g,0,none⟩) l cap)):=Mod.setCell (F:=fun q=>q=pb) (Mod.refl _ _) ⟨pb,3,none⟩ (.inl rfl) _;have hb5:=(m1.block pb (lQ h.blk) fun e=>(h.own.1 _ e).1 rfl).trans h.blk;have hlp:=lQ h.blk;have hlb:=h.bk.lt;have hlc:=h.ct.lt;have hgn:g≠pb∧g≠mb∧g≠mc∧tv.ownBlock≠some g:=by
  rcases ho with q|q
  ·exact h.own.1 g q
  ·exact⟨by omega,by omega,by omega,fun e=>by have:=(row_lt h.tr e).2;omega⟩
 refine⟨by unfold World.frozen?;rw[hb5];simp,by unfold World.cell?;rw[hb5];rfl,⟨heap_setCell_same w5 pb 3 _ _ _ hb5,(h.bk.mod m1 fun e=>(h.own.1 _ e).2.1 rfl).mod m2 fun e=>h.ne.1 e.symm,(h.ct.mod m1 fun e=>(h.own.1 _ e).2.2.1 rfl).mod m2 fun e=>h.ne.2.1 e.symm,ownsRow_keep hr fun q hq=> ?_,ownsRow_keep h.tr fun q hq=> ?_,h.b0,h.ne,⟨fun q hq=> ?_,h.own.2⟩⟩,(m1.mono fun q _ e=>.inr e).trans m2 fun q _ e=>.inl (.inl e)⟩
 ·cases hq;exact m2.block g (row_lt hr rfl).2 hgn.1
 ·have h1:=(row_lt h.tr hq).2;have h2:=h.own.2 q hq;exact(m2.block q (Nat.lt_of_lt_of_le h1 hg.size) h2.1).trans (m1.block q h1 fun e=>(h.own.1 q e).2.2.2 hq)
 ·cases hq;exact hgn
theorem Pb.setT(h:Pb w base pb xb n mb mc s k wv W f c tv Tr){w5:World}{g l cap:Nat}{T':List Int}(hg:w.grownBy w5 tv.ownBlock)(hr:w5.ownsRow base 42 1 (.slice (some ⟨g,0,none⟩) l cap) T'.length (T'.map encU))(ho:tv.ownBlock=some g∨w.heap.size≤g):w5.frozen? ⟨pb,5,none⟩=false∧w5.cell? ⟨pb,5,none⟩=some tv∧Pb (w5.setCell ⟨pb,5,none⟩ (.slice (some ⟨g,0,none⟩) l cap)) base pb xb n mb mc s k wv W f c (.slice (some ⟨g,0,none⟩) l cap) T'∧Mod (fun q=>q=pb∨tv.ownBlock=some q) w (w5.setCell ⟨pb,5,none⟩ (.slice (some ⟨g,0,none⟩) l cap)):=by
 have m1:Mod (fun q=>tv.ownBlock=some q) w w5:=⟨hg.os,hg.tape,hg.output,hg.size,fun q hq hn=>hg.block q hq fun e=>hn e.symm⟩;have m2:Mod (fun q=>q=pb) w5 (w5.setCell ⟨pb,5,none⟩ (.slice (some ⟨g,0,none⟩) l cap)):=Mod.setCell (F:=fun q=>q=pb) (Mod.refl _ _) ⟨pb,5,none⟩ (.inl rfl) _;have hb5:=(m1.block pb (lQ h.blk) fun e=>(h.own.2 _ e).1 rfl).trans h.blk;have hlp:=lQ h.blk;have hlb:=h.bk.lt;have hlc:=h.ct.lt;have hgn:g≠pb∧g≠mb∧g≠mc:=by
  rcases ho with q|q
  ·exact h.own.2 g q
  ·exact⟨by omega,by omega,by omega⟩
 refine⟨by unfold World.frozen?;rw[hb5];simp,by unfold World.cell?;rw[hb5];rfl,⟨heap_setCell_same w5 pb 5 _ _ _ hb5,(h.bk.mod m1 fun e=>(h.own.2 _ e).2.1 rfl).mod m2 fun e=>h.ne.1 e.symm,(h.ct.mod m1 fun e=>(h.own.2 _ e).2.2 rfl).mod m2 fun e=>h.ne.2.1 e.symm,ownsRow_keep h.wr fun q hq=> ?_,ownsRow_keep hr fun q hq=> ?_,h.b0,h.ne,⟨fun q hq=> ?_,fun q hq=> ?_⟩⟩,(m1.mono fun q _ e=>.inr e).trans m2 fun q _ e=>.inl (.inl e)⟩
 ·have h1:=(row_lt h.wr hq).2;have h2:=h.own.1 q hq;exact(m2.block q (Nat.lt_of_lt_of_le h1 hg.size) h2.1).trans (m1.block q h1 fun e=>h2.2.2.2 e)
 ·cases hq;exact m2.block g (row_lt hr rfl).2 hgn.1
 ·have h2:=h.own.1 q hq;refine⟨h2.1,h2.2.1,h2.2.2.1,fun e=> ?_⟩;have e2:some g=some q:=e;cases e2;rcases ho with z|z
  ·exact h2.2.2.2 z
  ·have:=(row_lt h.wr hq).2;omega
 ·cases hq;exact hgn
def BreakP(w:World)(base pb xb:Nat)(n:Int)(mb mc:Nat)(s:Int→Bool)(k:Nat)(wv:Value)(W:List Wt)(f:Int→Int)(c:Nat)(tv:Value)(Tr:List Int)(x:Int)(r:Ending)(w':World):Prop:=
 (s x=true∧r=.returned (.int .i64 9)∧w'=w)∨
 (s x=false∧r=.returned (.int .i64 0)∧Pb w' base pb xb n mb mc (fun y=>if y=x then true else s y) (k+1) wv W f c tv Tr∧Mod (fun g=>g=mb) w w')
theorem break'(h:Pb w base pb xb n mb mc s k wv W f c tv Tr)(x:Int)(h0:0≤x)(h1:x≤4294967295)(hk:k<32):Calls Tryz.prog 23 #[.pointer (some ⟨pb,0,none⟩),.int .u32 x] w (BreakP w base pb xb n mb mc s k wv W f c tv Tr x):=by
 obtain⟨c0,c1,c2,c3,c4,c5,_⟩:=h.cells;have hl:=h.bk.look x h0 h1;have hn:=h.bk.len;have hk':(k:Int)<32:=by omega
 cases hs:s x with
 |true=>
  rw[hs] at hl;have HF:=Lh (show BreakP w base pb xb n mb mc s k wv W f c tv Tr x (.returned (.int .i64 9)) w from .inl ⟨hs,rfl,rfl⟩);generalize BreakP w base pb xb n mb mc s k wv W f c tv Tr x=PQ at*;clear h hs;go_enter func23,ntmps23;go_wp2
  first|exact HF.out|(go_ret;exact HF.out)
 |false=>
  rw[hs] at hl;obtain⟨w',hrun,hb,hm⟩:=h.bk.put x h0 h1 hs (by omega);have HF:=Lh (show BreakP w base pb xb n mb mc s k wv W f c tv Tr x (.returned (.int .i64 0)) w' from .inr ⟨hs,rfl,h.setB hb hm,hm⟩);generalize BreakP w base pb xb n mb mc s k wv W f c tv Tr x=PQ at*;clear h hs hb hm;go_enter func23,ntmps23;go_wp2
  first|exact HF.out|(go_ret;exact HF.out)
theorem clear_no(h:Pb w base pb xb n mb mc s k wv W f c tv Tr)(x:Int)(h0:0≤x)(h1:x≤4294967295)(hs:s x=false):Calls Tryz.prog 31 #[.pointer (some ⟨pb,0,none⟩),.int .u32 x] w fun r w'=>r=.returned (.int .i64 3)∧w=w':=by
 obtain⟨c0,c1,c2,c3,c4,c5,_⟩:=h.cells;have hl:=h.bk.look x h0 h1;rw[hs] at hl;clear h hs;go_enter func31,ntmps31;go_wp2;go_ret;exact⟨rfl,rfl⟩
def WatchP(w:World)(base pb xb:Nat)(n:Int)(mb mc:Nat)(s:Int→Bool)(k:Nat)(wv:Value)(W:List Wt)(f:Int→Int)(c:Nat)(tv:Value)(Tr:List Int)(x m:Int)(r:Ending)(w':World):Prop:=
 r=.returned (.int .i64 0)∧∃wv',Pb w' base pb xb n mb mc s k wv' (W++[⟨{ data:= #[] },x,m⟩]) f c tv Tr∧Mod (fun g=>g=pb∨wv.ownBlock=some g) w w'∧(wv'.ownBlock=wv.ownBlock∨∃g,wv'.ownBlock=some g∧w.heap.size≤g)
theorem watch(h:Pb w base pb xb n mb mc s k wv W f c tv Tr)(x m:Int)(m1:1≤m)(m2:m≤64)(hW:W.length<16):Calls Tryz.prog 24 #[.pointer (some ⟨pb,0,none⟩),.int .u32 x,.int .i64 m] w (WatchP w base pb xb n mb mc s k wv W f c tv Tr x m):=by
 obtain⟨c0,c1,c2,c3,c4,c5,cf⟩:=h.cells;have hf3:=cf 3;obtain⟨so,sc,rfl⟩:∃o cap,wv=.slice o W.length cap:=by
  rcases h.wr.2 with⟨rfl,h0⟩|⟨g,cap,cur,rfl,_⟩
  ·exact⟨none,0,by rw[h0]⟩
  ·exact⟨_,cap,rfl⟩
 have HP:=Lh h;have hw16:(W.length:Int)<16:=by omega
 have hA:=(Below.refl w.heap.size w).alloc (Nat.le_refl _) (.cells #[.string { data:= #[] },.int .u32 x,.int .i64 m] 141);have hN:=heap_alloc_new w (.cells #[.string { data:= #[] },.int .u32 x,.int .i64 m] 141);obtain⟨w1,hw1⟩:∃y,w.alloc (.cells #[.string { data:= #[] },.int .u32 x,.int .i64 m] 141)=y:=⟨_,rfl⟩;rw[hw1] at hA hN;have HA:=Lh hA;have HN:Hid (w1.heap[w.heap.size]? =some (.cells (Wt.cells ⟨{ data:= #[] },x,m⟩).toArray 141 (0,0))):=Lh hN;have HB:Hid (base≤w1.heap.size):=Lh (by have:=h.b0;have:=lQ h.blk;have:=hA.size;omega);clear hA hN;have HF:=Lh fun V wv' g1 g2 g3=>(show WatchP w base pb xb n mb mc s k (.slice so W.length sc) W f c tv Tr x m (.returned (.int .i64 0)) V from⟨rfl,wv',g1,g2,g3⟩)
 generalize WatchP w base pb xb n mb mc s k (.slice so W.length sc) W f c tv Tr x m=PQ at*;clear h cf;go_enter func24,ntmps24;go_wp2_with (at_builtin;refine wpList_app_wt (by rfl) _ _ (by rfl) base _ _ (by rfl) (HP.out.below HA.out).wr _ ⟨{ data:= #[] },x,m⟩ (by rfl) HN.out (by omega) HB.out ?_;intro g cap w5 hr5 hg5 ho5;obtain⟨d0,d1,d2,d3⟩:=(HP.out.below HA.out).setW hg5 hr5 ho5;have HD2:=Lh d2;have HD3:=Lh (Mod.trans (F:=fun q=>q=pb∨(Value.slice so W.length sc).ownBlock=some q) (Mod.of_below HA.out _) d3 fun q _ e=>.inl e);have HO:=Lh (ho5.imp (fun q=>q.symm) fun q=>(show∃z,(some g:Option Nat)=some z∧w.heap.size≤z from⟨g,rfl,by rw[q];exact HA.out.size⟩));clear d2 d3 hr5 hg5 ho5 c3);have HE:=Lh (HF.out _ _ HD2.out HD3.out HO.out)
 first|exact HE.out|(go_ret;exact HE.out)
end
end Pr
open Go.RowKit Pag
namespace Pr
theorem str_beq(a b:ByteArray):(a.toList == b.toList)=decide (a=b):=by
 rw[ByteArray.toList_eq,ByteArray.toList_eq]
 by_cases h:a=b
 ·rw[decide_eq_true h,h];exact beq_self_eq_true _
 ·rw[decide_eq_false h];exact beq_eq_false_iff_ne.2 fun e=>h (ByteArray.ext (Array.ext' e))
section
variable {w w':World} {base pb xb mb mc k c:Nat} {n:Int} {s:Int→Bool} {wv tv:Value} {W:List Wt} {f:Int→Int} {Tr:List Int}
structure Xq(w:World)(xb:Nat)(n:Int)(sp mb cb:Nat)(A:List Pg)(rg:List Int)(pc:Int):Prop where
 s:∀V,Below w.heap.size w V→Calls Tryz.prog 25 #[.pointer (some ⟨xb,0,none⟩),.int .i64 n] V fun r w'=>r=.returned (.pointer (some ⟨sp,0,none⟩))∧V=w'
 c:∀V,Below w.heap.size w V→Calls Tryz.prog 29 #[.pointer (some ⟨xb,0,none⟩),.int .i64 n] V fun r w'=>r=.returned (.pointer (some ⟨cb,0,none⟩))∧V=w'
 p:Spc w sp mb A
 g:Cpu 155 w cb rg pc
theorem Xq.below{sp qb cb:Nat}{A:List Pg}{rg:List Int}{pc:Int}(h:Xq w xb n sp qb cb A rg pc)(hb:Below w.heap.size w w'):Xq w' xb n sp qb cb A rg pc:=
 ⟨fun V hV=>h.s V (bQ hb hV),fun V hV=>h.c V (bQ hb hV),h.p.below hb fun k hk=>h.p.lt hk,h.g.below hb⟩
theorem look{sp qb cb:Nat}{A:List Pg}{rg:List Int}{pc:Int}(hc:w.cell? ⟨pb,0,none⟩=some (.pointer (some ⟨xb,0,none⟩))∧w.cell? ⟨pb,1,none⟩=some (.int .i64 n))(hl:pb<w.heap.size)(h:Xq w xb n sp qb cb A rg pc)(x:Wt)(a0:0≤x.at')(a1:x.at'≤4294967295):
  Calls Tryz.prog 111 #[.pointer (some ⟨pb,0,none⟩),.agg x.cells.toArray] w fun r w'=>r=.returned (.string (Sp.getS A x.at' x.n 0))∧Below w.heap.size w w':=by
 have hA:=(Below.refl w.heap.size w).alloc (Nat.le_refl _) (.cells x.cells.toArray 141);have hN:=heap_alloc_new w (.cells x.cells.toArray 141);obtain⟨w1,hw1⟩:∃y,w.alloc (.cells x.cells.toArray 141)=y:=⟨_,rfl⟩;obtain⟨tb,htb⟩:∃y,w.heap.size=y:=⟨_,rfl⟩;rw[hw1] at hA hN;have HA:=Lh hA;have HQ:=Lh (h.below hA);have HF:Hid (∀V,Below w1.heap.size w1 V→V.cell? ⟨pb,0,none⟩=some (.pointer (some ⟨xb,0,none⟩))∧V.cell? ⟨pb,1,none⟩=some (.int .i64 n)∧V.cell? ⟨tb,1,none⟩=some (.int .u32 x.at')∧V.cell? ⟨tb,2,none⟩=some (.int .i64 x.n)∧True):=Lh fun V hV=>by
  have hb:=(bQ hA hV).block pb hl;have hn:=(hV.block _ (lQ hN)).trans hN;rw[htb] at hn;exact⟨(World.cell?_of_block hb).trans hc.1,(World.cell?_of_block hb).trans hc.2,by unfold World.cell?;rw[hn];rfl,by unfold World.cell?;rw[hn];rfl,trivial⟩
 have HA0:=Lh (And.intro a0 a1);have hS:=HF.out w1 Br;clear hc hl h hA hN a0 a1;unfold Wt.cells at hw1⊢;go_enter func111,ntmps111;go_upto_region 1 with(fail);clear hw1;refine B (fun V=>V.cell? ⟨pb,0,none⟩=some (.pointer (some ⟨xb,0,none⟩))∧V.cell? ⟨pb,1,none⟩=some (.int .i64 n)∧V.cell? ⟨tb,1,none⟩=some (.int .u32 x.at')∧V.cell? ⟨tb,2,none⟩=some (.int .i64 x.n)∧True) hS fun wd hwd hS=> ?_
 have HBd:=Lh (show Below w1.heap.size w1 wd by rw[hwd];exact Br.drew);clear hwd;refine T 0 hS ?_;refine T 1 hS ?_;refine T 2 hS ?_;refine T 3 hS ?_;refine T 4 hS ?_;refine T 5 hS ?_;refine T 6 hS ?_;refine T 7 hS ?_;refine T 9 hS ?_;refine T 10 hS ?_;refine T 11 hS ?_;refine T 12 hS ?_;refine U 8 fun K' hK=> ?_
 go_simp;go_at_call 25;refine(HQ.out.s wd HBd.out).mono ?_;rintro r w2 ⟨rfl,rfl⟩;refine V hK hS ?_;clear hK K';refine U 13 fun K' hK=> ?_
 go_simp;go_at_call 26;refine(Sp.look (HQ.out.below HBd.out).p x.at' x.n HA0.out.1 HA0.out.2).mono ?_;rintro r w2 ⟨rfl,hb2⟩;have HB2:=Lh (bQ HBd.out hb2);have hS:=HF.out w2 HB2.out;clear hb2;refine V hK hS ?_;clear hK K';refine T 14 hS ?_;refine T 15 hS ?_;refine T 16 hS ?_;refine T 17 hS ?_;refine T 18 hS ?_;refine wpAnyH_done (by kernel_rfl) ?_ _;clear hS;have HE:=Lh (bQ HA.out HB2.out);clear HA HQ HF HBd HB2;go_wp2;go_ret;exact⟨rfl,HE.out⟩
def SeeP(w:World)(base pb xb:Nat)(n:Int)(mb mc:Nat)(s:Int→Bool)(k:Nat)(g cap:Nat)(x:Wt)(f:Int→Int)(c:Nat)(tv:Value)(Tr:List Int)(A:List Pg)(r:Ending)(w':World):Prop:=
 r=.returned (.tuple #[])∧Pb w' base pb xb n mb mc s k (.slice (some ⟨g,0,none⟩) 1 cap) [⟨Sp.getS A x.at' x.n 0,x.at',x.n⟩] f c tv Tr∧Mod (fun q=>q=g) w w'
theorem Pb.wt{g cap:Nat}{x:Wt}(h:Pb w base pb xb n mb mc s k (.slice (some ⟨g,0,none⟩) 1 cap) [x] f c tv Tr):w.cell? ⟨g,0,none⟩=some (.string x.seen)∧w.cell? ⟨g,1,none⟩=some (.int .u32 x.at')∧w.cell? ⟨g,2,none⟩=some (.int .i64 x.n)∧∀i,w.frozen? ⟨g,i,none⟩=false:=
 ⟨(h.wr.cellAt 0 (by simp)).trans rfl,(h.wr.cellAt 1 (by simp)).trans rfl,(h.wr.cellAt 2 (by simp)).trans rfl,fun i=>h.wr.frozenAt i⟩
theorem Pb.seen{g cap:Nat}{x:Wt}(h:Pb w base pb xb n mb mc s k (.slice (some ⟨g,0,none⟩) 1 cap) [x] f c tv Tr)(t:ByteArray):Pb (w.setCell ⟨g,0,none⟩ (.string t)) base pb xb n mb mc s k (.slice (some ⟨g,0,none⟩) 1 cap) [⟨t,x.at',x.n⟩] f c tv Tr∧Mod (fun q=>q=g) w (w.setCell ⟨g,0,none⟩ (.string t)):=by
 have m:Mod (fun q=>q=g) w (w.setCell ⟨g,0,none⟩ (.string t)):=Mod.setCell (F:=fun q=>q=g) (Mod.refl _ _) ⟨g,0,none⟩ (.inl rfl) _;have ho:=h.own.1 g rfl;exact⟨{ h with blk:=(m.block _ (lQ h.blk) fun e=>ho.1 e.symm).trans h.blk,bk:=h.bk.mod m fun e=>ho.2.1 e.symm,ct:=h.ct.mod m fun e=>ho.2.2.1 e.symm,wr:=(h.wr.stored 0 (.string t)).1,tr:=ownsRow_keep h.tr fun q hq=>m.block q (row_lt h.tr hq).2 fun e=>ho.2.2.2 (e▸hq) },m⟩
theorem see{g cap sp qb cb:Nat}{A:List Pg}{rg:List Int}{pc:Int}{x:Wt}(h:Pb w base pb xb n mb mc s k (.slice (some ⟨g,0,none⟩) 1 cap) [x] f c tv Tr)(hq:Xq w xb n sp qb cb A rg pc)(a0:0≤x.at')(a1:x.at'≤4294967295):
  Calls Tryz.prog 59 #[.pointer (some ⟨pb,0,none⟩)] w (SeeP w base pb xb n mb mc s k g cap x f c tv Tr A):=by
 have HP:=Lh h;have HQ:=Lh hq;have HA0:=Lh (And.intro a0 a1);have HF:=Lh fun V g1 g2=>(show SeeP w base pb xb n mb mc s k g cap x f c tv Tr A (.returned (.tuple #[])) V from⟨rfl,g1,g2⟩)
 generalize SeeP w base pb xb n mb mc s k g cap x f c tv Tr A=PQ at*;have HS:Hid (∀V,Below w.heap.size w V→V.cell? ⟨pb,3,none⟩=some (.slice (some ⟨g,0,none⟩) 1 cap)∧V.cell? ⟨g,0,none⟩=some (.string x.seen)∧V.cell? ⟨g,1,none⟩=some (.int .u32 x.at')∧V.cell? ⟨g,2,none⟩=some (.int .i64 x.n)∧True):=Lh fun V hV=>by
  have h':=HP.out.below hV;exact⟨h'.cells.2.2.2.1,h'.wt.1,h'.wt.2.1,h'.wt.2.2.1,trivial⟩
 obtain⟨c3,c30,c31,c32,_⟩:=HS.out w Br;clear h hq a0 a1;go_enter func59,ntmps59;go_wp2_with fail;refine wp_loop_rounds 2 ?_;rw[rounds_succ];clear c30 c31 c32;go_wp2_with fail;refine LB (fun V=>V.cell? ⟨pb,3,none⟩=some (.slice (some ⟨g,0,none⟩) 1 cap)∧V.cell? ⟨g,0,none⟩=some (.string x.seen)∧V.cell? ⟨g,1,none⟩=some (.int .u32 x.at')∧V.cell? ⟨g,2,none⟩=some (.int .i64 x.n)∧True) 17 (HS.out _ Br.drew) fun wd hwd hS=> ?_
 have HBd:=Lh (show Below w.heap.size w wd by rw[hwd];exact Br.drew);clear hwd c3;refine LT 0 hS ?_;refine LT 1 hS ?_;refine LT 2 hS ?_;refine LT 3 hS ?_;refine LT 4 hS ?_;refine LT 5 hS ?_;refine LT 6 hS ?_;refine LT 7 hS ?_;refine LT 8 hS ?_;refine LT 9 hS ?_;refine LT 10 hS ?_;refine LT 11 hS ?_;refine LT 12 hS ?_;refine LU 13 fun K' hK=> ?_
 go_simp;go_at_call 111;refine(look ⟨(HP.out.below HBd.out).cells.1,(HP.out.below HBd.out).cells.2.1⟩ (lQ (HP.out.below HBd.out).blk) (HQ.out.below HBd.out) x HA0.out.1 HA0.out.2).mono ?_;rintro r w2 ⟨rfl,hb2⟩;have HB2:=Lh (bQ HBd.out hb2);have hS:=HS.out w2 HB2.out;clear hb2;refine LV hK (fun _=>hS) ?_;clear hK K';refine LU 14 fun K' hK=> ?_
 go_simp;refine LV hK (fun _=>hS) ?_;clear hK K';refine LU 15 fun K' hK=> ?_
 go_simp;refine LV hK (fun _=>hS) ?_;clear hK K';refine LU 16 fun K' hK=> ?_
 go_simp;refine LV hK (fun _=>hS) ?_;clear hK K';have hfz:=(HP.out.below HB2.out).wt.2.2.2 0;obtain⟨hp3,hm3⟩:=(HP.out.below HB2.out).seen (Sp.getS A x.at' x.n 0);have HP3:=Lh hp3;have HM3:=Lh hm3;have hS3:(w2.setCell ⟨g,0,none⟩ (.string (Sp.getS A x.at' x.n 0))).cell? ⟨pb,3,none⟩=some (.slice (some ⟨g,0,none⟩) 1 cap):=hp3.cells.2.2.2.1;obtain⟨s0,s1,s2,s3,_⟩:=hS;clear hp3 hm3;refine LU 17 fun K' hK=> ?_
 go_simp;refine LV hK (fun q=>absurd rfl q) ?_;clear hK K';refine E_done (by kernel_rfl) ?_ _;clear s0 s1 s2 s3 hfz;have HE:=Lh (HF.out _ HP3.out ((Mod.of_below HB2.out fun q=>q=g).trans HM3.out fun q _ e=>.inl e));clear HP HQ HA0 HF HS HBd HB2 HP3 HM3;generalize w2.setCell ⟨g,0,none⟩ (.string (Sp.getS A x.at' x.n 0))=w3 at*;go_wp2;rw[rounds_succ];go_wp2
 first|exact HE.out|(go_end0;exact HE.out)
def ChP(w:World)(x:Wt)(A:List Pg)(r:Ending)(w':World):Prop:=
 r=.returned (.tuple #[.int .i64 0,.bool (!decide (x.seen=Sp.getS A x.at' x.n 0))])∧Below w.heap.size w w'
theorem changed{g cap sp qb cb:Nat}{A:List Pg}{rg:List Int}{pc:Int}{x:Wt}(h:Pb w base pb xb n mb mc s k (.slice (some ⟨g,0,none⟩) 1 cap) [x] f c tv Tr)(hq:Xq w xb n sp qb cb A rg pc)(a0:0≤x.at')(a1:x.at'≤4294967295):
  Calls Tryz.prog 61 #[.pointer (some ⟨pb,0,none⟩)] w (ChP w x A):=by
 obtain⟨c0,c1,c2,c3,c4,c5,cf⟩:=h.cells;obtain⟨d0,d1,d2,d3⟩:=h.wt;have HP:=Lh h;have HQ:=Lh hq;have HA0:=Lh (And.intro a0 a1);have HF:Hid (∀V y,(!decide (x.seen=Sp.getS A x.at' x.n 0))=y→Below w.heap.size w V→ChP w x A (.returned (.tuple #[.int .i64 0,.bool y])) V):=Lh fun V y g1 g2=>⟨by rw[g1],g2⟩
 generalize ChP w x A=PQ at*;have hA:=(Below.refl w.heap.size w).alloc (Nat.le_refl _) (.cells #[.string x.seen,.int .u32 x.at',.int .i64 x.n] 141);have hN:=heap_alloc_new w (.cells #[.string x.seen,.int .u32 x.at',.int .i64 x.n] 141);obtain⟨w1,hw1⟩:∃y,w.alloc (.cells #[.string x.seen,.int .u32 x.at',.int .i64 x.n] 141)=y:=⟨_,rfl⟩;rw[hw1] at hA hN;have HA:=Lh hA;have HN:=Lh hN;clear h hq a0 a1 cf hA hN;go_enter func61,ntmps61;go_wp2_with fail;refine wp_loop_rounds 2 ?_;rw[rounds_succ];go_upto_region 4 with(fail);obtain⟨tb,htb⟩:∃y,w.heap.size=y:=⟨_,rfl⟩;have HS:Hid (∀V,Below w1.heap.size w1 V→V.cell? ⟨tb,0,none⟩=some (.string x.seen)∧V.cell? ⟨tb,1,none⟩=some (.int .u32 x.at')∧V.cell? ⟨tb,2,none⟩=some (.int .i64 x.n)∧True):=Lh fun V hV=>by
  have hb:=(hV.block _ (lQ HN.out)).trans HN.out;rw[htb] at hb;exact⟨by unfold World.cell?;rw[hb];rfl,by unfold World.cell?;rw[hb];rfl,by unfold World.cell?;rw[hb];rfl,trivial⟩
 rw[htb];refine B (fun V=>V.cell? ⟨tb,0,none⟩=some (.string x.seen)∧V.cell? ⟨tb,1,none⟩=some (.int .u32 x.at')∧V.cell? ⟨tb,2,none⟩=some (.int .i64 x.n)∧True) (HS.out _ Br.drew) fun wd hwd hS=> ?_
 have HBd:=Lh (show Below w1.heap.size w1 wd by rw[hwd];exact Br.drew);have HP1:=Lh (HP.out.below HA.out);have HQ1:=Lh (HQ.out.below HA.out);clear hwd c0 c1 c2 c3 c4 c5 d0 d1 d2 d3 hw1 HP HQ;refine T 0 hS ?_;refine T 1 hS ?_;refine T 2 hS ?_;refine T 3 hS ?_;refine T 4 hS ?_;refine U 5 fun K' hK=> ?_
 go_simp;go_at_call 111;refine(look ⟨(HP1.out.below HBd.out).cells.1,(HP1.out.below HBd.out).cells.2.1⟩ (lQ (HP1.out.below HBd.out).blk) (HQ1.out.below HBd.out) x HA0.out.1 HA0.out.2).mono ?_;rintro r w2 ⟨rfl,hb2⟩;have HB2:=Lh (bQ HBd.out hb2);have hS:=HS.out w2 HB2.out;have HE:=Lh (HF.out w2 _ rfl (bQ HA.out HB2.out));clear hb2 HF HP1 HQ1 HA0 HBd HA HN;obtain⟨t,ht⟩:∃t,Sp.getS A x.at' x.n 0=t:=⟨_,rfl⟩;rw[ht] at HE;rw[ht];clear ht;refine V hK hS ?_;clear hK K';refine T 6 hS ?_;refine wpAnyH_done (by kernel_rfl) ?_ _;clear hS HS HB2;have hb:=str_beq x.seen t;generalize (x.seen.toList == t.toList)=z at*;rw[←hb] at HE;clear hb;cases z with
 |true=>
  go_wp2;rw[rounds_succ];go_wp2
  first|exact HE.out|(go_ret;exact HE.out)
 |false=>
  go_wp2
  first|exact HE.out|(go_ret;exact HE.out)
end
end Pr
open Go.RowKit Pag
namespace Pr
structure Pe(w:World)(base xb:Nat)(S:Nat→Slt)(tv:Value)(T:List Eve)(a:KAt)(K:Kn)(e:EAt)(E:En)(n:Nat)(pb mb mc:Nat)(s:Int→Bool)(k g cap:Nat)(x:Wt)(f:Int→Int)(c:Nat)(tw:Value)(Tr:List Int):Prop where
 xe:Xe w base xb S tv T a K e E
 pr:Pb w base pb xb n mb mc s k (.slice (some ⟨g,0,none⟩) 1 cap) [x] f c tw Tr
 num:E.num=n
 n1:1≤n∧n≤8
 sl:(S n).is=true∧(S n).env=some e.eb
 ap:∀q,Pb.foot pb mb mc (.slice (some ⟨g,0,none⟩) 1 cap) tw q→a.tag q=0∧¬e.foot E.A q∧q≠xb∧tv.ownBlock≠some q
namespace Pe
variable {w w':World} {base xb:Nat} {S:Nat→Slt} {tv tv':Value} {T T':List Eve} {a a':KAt} {K K':Kn} {e e':EAt} {E E':En} {n pb mb mc k k' g g' cap cap' c c':Nat} {s s':Int→Bool} {x x':Wt} {f f':Int→Int} {tw tw':Value} {Tr Tr':List Int}
theorem lt(h:Pe w base xb S tv T a K e E n pb mb mc s k g cap x f c tw Tr){q:Nat}(hq:Pb.foot pb mb mc (.slice (some ⟨g,0,none⟩) 1 cap) tw q):q<w.heap.size:=by
 rcases hq with rfl|rfl|rfl|hq|hq
 ·exact lQ h.pr.blk
 ·exact h.pr.bk.lt
 ·exact h.pr.ct.lt
 ·exact(row_lt h.pr.wr hq).2
 ·exact(row_lt h.pr.tr hq).2
theorem below(h:Pe w base xb S tv T a K e E n pb mb mc s k g cap x f c tw Tr)(hb:Below w.heap.size w w'):Pe w' base xb S tv T a K e E n pb mb mc s k g cap x f c tw Tr:=
 { h with xe:=h.xe.below hb,pr:=h.pr.below hb }
theorem xq(h:Pe w base xb S tv T a K e E n pb mb mc s k g cap x f c tw Tr):Xq w xb n e.sb e.mb e.cb E.A E.r E.pc:=
 ⟨fun V hV=>Ex.spaceS (h.xe.below hV).x n h.n1.1 h.n1.2 h.sl.1 h.sl.2 (h.xe.below hV).j.en,fun V hV=>Ex.cpuS (h.xe.below hV).x n h.n1.1 h.n1.2 h.sl.1 h.sl.2 (h.xe.below hV).j.en,h.xe.j.en.sp,h.xe.j.en.cp⟩
theorem ran(h:Pe w base xb S tv T a K e E n pb mb mc s k g cap x f c tw Tr)(hx:Xe w' base xb S tv' T' a' K' e' E')(st:XStep w w' xb tv a e E.A tv' a' e' E'.A)(hn:E'.num=E.num):Pe w' base xb S tv' T' a' K' e' E' n pb mb mc s k g cap x f c tw Tr:=
 { h with
      xe:=hx,num:=hn.trans h.num,sl:=⟨h.sl.1,by rw[st.eb];exact h.sl.2⟩
      pr:=h.pr.mod st.mod fun q hq z=>by
       obtain⟨h1,h2,h3,h4⟩:=h.ap q hq;rcases z with z|z|z|z
       ·exact z.1 h1
       ·exact h2 z
       ·exact h3 z
       ·exact h4 z
      ap:=fun q hq=>by
       obtain⟨h1,h2,h3,h4⟩:=h.ap q hq;obtain⟨_,g1,g2,g3⟩:=st.out (h.lt hq) h1 h2 h3 h4;exact⟨g1,g2,h3,g3⟩ }
theorem prb{F:Nat→Prop}(h:Pe w base xb S tv T a K e E n pb mb mc s k g cap x f c tw Tr)(hm:Mod F w w')(hF:∀q,F q→Pb.foot pb mb mc (.slice (some ⟨g,0,none⟩) 1 cap) tw q∨w.heap.size≤q)(hp:Pb w' base pb xb n mb mc s' k' (.slice (some ⟨g',0,none⟩) 1 cap') [x'] f' c' tw' Tr')(hq:∀q,Pb.foot pb mb mc (.slice (some ⟨g',0,none⟩) 1 cap') tw' q→Pb.foot pb mb mc (.slice (some ⟨g,0,none⟩) 1 cap) tw q∨w.heap.size≤q):Pe w' base xb S tv T a K e E n pb mb mc s' k' g' cap' x' f' c' tw' Tr':=
 { h with xe:=h.xe.keep hm fun q z=>(hF q z).elim (h.ap q) fun z=>h.xe.fresh z,pr:=hp,ap:=fun q z=>(hq q z).elim (h.ap q) fun z=>h.xe.fresh z }
end Pe
def last32(l:List Int):List Int:=l.drop (l.length - 32)
def cnt1(f:Int→Int)(p:Int):Int→Int:=fun y=>if y=p then f p+1 else f y
inductive Gw (s:Int→Bool) (x:Wt) (K0:Kn) (E0:En) (T0:List Eve) (f0:Int→Int) (c0:Nat) (R0:List Int):Nat→Kn→En→List Eve→(Int→Int)→Nat→List Int→Prop
 |nil:Gw s x K0 E0 T0 f0 c0 R0 0 K0 E0 T0 f0 c0 R0
 |step {i:Nat} {K K':Kn} {E E':En} {T T':List Eve} {f:Int→Int} {c:Nat} {R:List Int} (h:Gw s x K0 E0 T0 f0 c0 R0 i K E T f c R) (hk:E.kind=2) (hb:i=0∨s E.pc=false) (hr:RunX 1 K E T 1 K' E' T') (hs:Sp.getS E.A x.at' x.n 0=Sp.getS E'.A x.at' x.n 0):Gw s x K0 E0 T0 f0 c0 R0 (i+1) K' E' T' (cnt1 f E.pc) (if f E.pc=0 then c+1 else c) (last32 (R++[E.pc]))
inductive GoX (s:Int→Bool) (x:Wt) (K0:Kn) (E0:En) (T0:List Eve) (f0:Int→Int) (c0:Nat) (R0:List Int) (m:Nat):Int→Int→Nat→Kn→En→List Eve→(Int→Int)→Nat→List Int→Prop
 |none {K E T f c R} (h:Gw s x K0 E0 T0 f0 c0 R0 m K E T f c R):GoX s x K0 E0 T0 f0 c0 R0 m 0 0 m K E T f c R
 |over {i K E T f c R} (h:Gw s x K0 E0 T0 f0 c0 R0 i K E T f c R) (hi:i<m) (hk:E.kind≠2):GoX s x K0 E0 T0 f0 c0 R0 m 3 0 i K E T f c R
 |fault {i K E T f c R K' E' T'} (h:Gw s x K0 E0 T0 f0 c0 R0 i K E T f c R) (hi:i<m) (hk:E.kind=2) (hb:i=0∨s E.pc=false) (hr:RunX 1 K E T 0 K' E' T') (hk':E'.kind≠2):GoX s x K0 E0 T0 f0 c0 R0 m 3 0 i K' E' T' f c R
 |stop {i K E T f c R} (h:Gw s x K0 E0 T0 f0 c0 R0 i K E T f c R) (hi:i<m) (hk:E.kind=2) (h0:0<i) (hs:s E.pc=true):GoX s x K0 E0 T0 f0 c0 R0 m 1 E.pc i K E T f c R
 |watch {i K E T f c R K' E' T'} (h:Gw s x K0 E0 T0 f0 c0 R0 i K E T f c R) (hi:i<m) (hk:E.kind=2) (hb:i=0∨s E.pc=false) (hr:RunX 1 K E T 1 K' E' T') (hs:Sp.getS E.A x.at' x.n 0≠Sp.getS E'.A x.at' x.n 0):GoX s x K0 E0 T0 f0 c0 R0 m 2 E'.pc (i+1) K' E' T' (cnt1 f E.pc) (if f E.pc=0 then c+1 else c) (last32 (R++[E.pc]))
end Pr
end Go.Proofs.YtnpicaigdfnmfaaGreat
