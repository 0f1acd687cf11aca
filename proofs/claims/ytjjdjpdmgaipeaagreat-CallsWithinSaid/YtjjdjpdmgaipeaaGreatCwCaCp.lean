/- CaCp, NiCp in one text. -/
import Derived.Test.YtjjdjpdmgaipeaaGreatCwGraG
import Derived.Test.YtjjdjpdmgaipeaaGreatCwReg
import Derived.Test.YtjjdjpdmgaipeaaGreatCwZa
set_option linter.unusedVariables false
set_option linter.unusedSimpArgs false
set_option maxRecDepth 100000
set_option maxHeartbeats 16000000
open Go.Proofs.Tryz
namespace Go.Proofs.YtjjdjpdmgaipeaaGreat
open Go.RowKit
theorem Cps.empty(w:World){hp:Int}(p0:0≤hp)(hv:Value):Cps ((w.alloc (.map #[] 0)).alloc (.cells #[.int .u32 hp,hv,.map (some w.heap.size)] 194)) ⟨w.heap.size+1,w.heap.size,hv,fun _=>w.heap.size+1,fun _=>.slice none 0 0,fun _=>.slice none 0 0⟩ hp (fun _=>none):=by
 have hown:=World.ownsMap_made w Tryz.prog 3 ptrElem;have hs2:(w.alloc (.map #[] 0)).heap.size=w.heap.size+1:=by simp
 generalize w.alloc (.map #[] 0)=V2 at*;have hnew:=heap_alloc_new V2 (.cells #[.int .u32 hp,hv,.map (some w.heap.size)] 194);rw[hs2] at hnew;exact⟨hnew,⟨_,_,hown.alloc _,fun x zd=>by rw[if_neg (by simp)];rfl,rfl⟩,fun n g hg=>(by cases hg),fun n g hg=>(by cases hg),fun n hn=>(by cases hn),fun n m hn=>(by cases hn),p0⟩
namespace Ca
structure CpR(w:World)(a:CAt)(hp:Int)(G:Int→Option Gr)(f:Int→Bool)(cb mb r:Nat)(wr:World)(c:CAt):Prop where
 cps:Cps wr c hp (Gp.met f G)
 bel:Below w.heap.size w wr
 ecb:c.cb=cb
 emb:c.mb=mb
 hv:c.hv=a.hv
 ev:∀n,(Gp.met f G n).isSome=true→c.ev n=a.ev n∧c.pv n=a.pv n∧w.heap.size≤c.gb n
 cb0:w.heap.size≤cb
 mb0:w.heap.size≤mb
 r0:w.heap.size≤r
 rm:r≠mb
 nr:∀k,c.wf (Gp.met f G) k∨c.rf (Gp.met f G) k→k≠r
 rl:r<wr.heap.size
def cpRel(w:World)(a:CAt)(hp:Int)(G:Int→Option Gr)(D:DataW Unit)(n r:Nat)(cb mb:Nat)(wr:World):Prop:=
 ∃left cnt c,wr.ranges Tryz.prog 3 ptrElem a.mb r n D left cnt∧CpR w a hp G (fun x=>left (.int .i64 x)) cb mb r wr c
section
variable {w:World} {a:CAt} {hp:Int} {G:Int→Option Gr}
theorem copy(h:Cps w a hp G)(p0:0≤hp)(hrf:∀k,a.rf G k→k<w.heap.size):Calls Tryz.prog 81 #[.pointer (some ⟨a.cb,0,none⟩)] w fun e w'=>∃c,e=.returned (.pointer (some ⟨c.cb,0,none⟩))∧CaCopy w w' a hp G c:=by
 have K:=Maps.int_keyed (P:=Tryz.prog) Tryz.underlying3;have hmm:= @run_makeMap Tryz.prog;obtain⟨D,n,ho,hv,hs⟩:=h.map;have Hv:=Lh hv;have H:=Lh h;obtain⟨c0,c1,c2⟩:=h.cells;have hb2:Below w.heap.size w ((w.alloc (.map #[] 0)).alloc (.cells #[.int .u32 hp,a.hv,.map (some w.heap.size)] 194)):=((Below.refl w.heap.size w).alloc (Nat.le_refl _) _).alloc (by simp) _;have Ho:Hid (World.ownsMap _ Tryz.prog 3 ptrElem a.mb n D):=Lh ((ho.alloc (.map #[] 0)).alloc (.cells #[.int .u32 hp,a.hv,.map (some w.heap.size)] 194));have He:=Lh (Cps.empty w p0 a.hv);have HB2:=Lh hb2;have HBd:=Lh fun f=>Gp.sumL_bd (f:=f) h.ok
 have HFt:=Lh h.fit;have HRf:=Lh hrf;have d2:=(h.below hb2).cells.2.2;have HFin:Hid (∀V c,Cps V c hp G→c.hv=a.hv→(∀n,(G n).isSome=true→c.ev n=a.ev n∧c.pv n=a.pv n)→(∀k,c.wf G k→w.heap.size≤k)→Below w.heap.size w V→∃c',Ending.returned (.pointer (some ⟨c.cb,0,none⟩))=.returned (.pointer (some ⟨c'.cb,0,none⟩))∧CaCopy w V a hp G c'):=Lh fun V c k1 k2 k3 k4 k5=>⟨c,rfl,k1,k2,k3,fun k hk=>⟨k4 k hk,k1.lt hk⟩,k5⟩
 clear h hv hs ho hb2 hrf;go_enter func81,ntmps81;go_wp2_with (at_range;refine wpList_range_own _ rfl _ 192 rfl 3 191 K Tryz.underlying192 ptrElem a.mb n D rfl Ho.out ?_;intro w2 hrg hg2 hz2);obtain⟨cb,hcb⟩:∃x,w.heap.size+1=x:=⟨_,rfl⟩;obtain⟨mb,hmb⟩:∃x,w.heap.size=x:=⟨_,rfl⟩;obtain⟨r,hr⟩:∃x,((w.alloc (.map #[] 0)).alloc (.cells #[.int .u32 hp,a.hv,.map (some w.heap.size)] 194)).heap.size=x:=⟨_,rfl⟩;have hr2:r=w.heap.size+2:=by rw[←hr];simp
 have h2:cpRel w a hp G D n r cb mb w2:=by
  rw[hr] at hrg;have hbg:Below ((w.alloc (.map #[] 0)).alloc (.cells #[.int .u32 hp,a.hv,.map (some w.heap.size)] 194)).heap.size ((w.alloc (.map #[] 0)).alloc (.cells #[.int .u32 hp,a.hv,.map (some w.heap.size)] 194)) w2:=(Below.refl _ _).grown hg2 (Nat.le_refl _) (fun k e=>by cases e);have hmt:=Gp.met_all (G:=G) (f:=fun x=>Maps.has D (.int .i64 x)) fun k hk=>Maps.has_true_of_atKey (y:=.lit (.int .i64 (a.gb k))) fun zd=>by rw[Hv.out,if_pos hk]
  refine⟨_,_,⟨w.heap.size+1,w.heap.size,a.hv,fun _=>w.heap.size+1,fun _=>.slice none 0 0,fun _=>.slice none 0 0⟩,hrg,⟨?_,below_th HB2.out hbg,hcb,hmb,rfl,fun n hn=> ?_,by omega,by omega,by omega,by omega,fun k hk=> ?_, ?_⟩⟩
  ·rw[hmt];exact He.out.below hbg
  ·rw[hmt] at hn;cases hn
  ·rw[hmt] at hk;have hr3:=hr2;rcases hk with(e|e|⟨n,hn,e⟩)|⟨n,hn,e⟩
   ·have e:k=w.heap.size+1:=e;omega
   ·have e:k=w.heap.size:=e;omega
   ·cases hn
   ·cases hn
  ·have:=hz2;have:=hg2.size;simp at this⊢;omega
 have H2:=Lh h2;have hr1:cb+1=r:=by omega
 try simp only[hcb]
 try simp only[hr1]
 clear hr1;clear hr hrg hg2 hz2 h2 Ho He d2 c0 c1 c2 hcb hmb hr2;try go_frame
 go_loopw [4,5] (fun _ _ wr=>cpRel w a hp G D n r cb mb wr) (fun _ _ wr=>wr.rangeLeft a.mb r)
 case atStart=>exact H2.out
 case round=>
  clear H2;obtain⟨left,cnt,c,hrg,hcr⟩:=hrel;have Hrg:=Lh hrg;have HC:=Lh hcr;clear hrg hcr;go_wp2_with (at_next;refine wpList_next_ranges _ rfl _ rfl 3 K ptrElem (Value.int .i64) id (fun key kl hk=>by obtain⟨x,hx,_⟩:=Maps.keyOf_int_inv Tryz.underlying3 hk;exact⟨x,hx⟩) (fun v _ _=>⟨v,rfl⟩) a.mb r n D left cnt rfl Hrg.out ?_ ?_)
  ·intro hc0 hl0;have hm:Gp.met (fun x=>left (.int .i64 x)) G=G:=Gp.met_none fun x=>by rw[hl0]
   have HE:=Lh (HFin.out wr c (by have:=HC.out.cps;rw[hm] at this;exact this) HC.out.hv (fun n hn=>by have:=HC.out.ev n (by rw[hm];exact hn);exact⟨this.1,this.2.1⟩) (fun k hk=>by
    rcases hk with rfl|rfl|⟨n,hn,rfl⟩
    ·rw[HC.out.ecb];exact HC.out.cb0
    ·rw[HC.out.emb];exact HC.out.mb0
    ·exact(HC.out.ev n (by rw[hm];exact hn)).2.2) HC.out.bel)
   rw[HC.out.ecb] at HE;clear hm;go_wp2
   first|exact HE.out|(go_ret;exact HE.out)
  ·intro x u kl y1 y2 w3 cnt2 hkey hlk hR hat3 hrg3 hlt hg3 hs3 hen;obtain⟨x',ex,rfl,hwx⟩:=Maps.keyOf_int_inv Tryz.underlying3 hkey;obtain rfl:x=x':=by simpa using ex
   obtain⟨⟨g,hg⟩,rfl⟩:=entry Hv.out hat3;obtain⟨x1,x8⟩:=H.out.dom x (by rw[hg];rfl);obtain rfl:u=.pointer (some ⟨a.gb x,0,none⟩):=by
    rcases ptrElem_inv hR with⟨_,hb⟩|⟨b,e,hb⟩
    ·omega
    ·have:b=a.gb x:=by omega
     subst this;exact e
   have hw3b:Below w.heap.size w w3:=HC.out.bel.grown hg3 HC.out.bel.size (fun k e=>by cases e;exact HC.out.r0);have hA3:=H.out.below hw3b;obtain⟨g0,g1,g2,g3,g4,g5,_⟩:=gr_cells (hA3.grant x g hg).1;have hmn3:=(hA3.grant x g hg).2;obtain⟨eo,ec,hev⟩:=hmn3.e.form;obtain⟨po,pc,hpv⟩:=hmn3.p.form;rw[hev] at g1 hmn3;rw[hpv] at g2 hmn3;have hcr3:Cps w3 c hp (Gp.met (fun x=>left (.int .i64 x)) G):=HC.out.cps.mod (F:=fun k=>k=r) ⟨hg3.os,hg3.tape,hg3.output,hg3.size,fun k hk hne=>hg3.block k hk (by simpa using hne)⟩ fun k hk e=>HC.out.nr k hk e
   have gbl:a.gb x<w.heap.size:=H.out.lt (.inr (.inr ⟨x,by rw[hg];rfl,rfl⟩));have aml:a.mb<w.heap.size:=H.out.lt (.inr (.inl rfl));have xcb:w3.cell? ⟨cb,2,none⟩=some (.map (some mb)):=by have:=hcr3.cells.2.2;rw[HC.out.ecb,HC.out.emb] at this;exact this
   have hS0:∀V,Below w3.heap.size w3 V→V.cell? ⟨cb,2,none⟩=some (.map (some mb))∧V.cell? ⟨a.gb x,0,none⟩=some (.int .u32 g.m.pages)∧V.cell? ⟨a.gb x,1,none⟩=some (.slice eo g.m.ext.length ec)∧V.cell? ⟨a.gb x,2,none⟩=some (.slice po g.m.ports.length pc)∧V.cell? ⟨a.gb x,3,none⟩=some (.bool g.m.con)∧V.cell? ⟨a.gb x,4,none⟩=some (.int .u32 g.pg)∧V.cell? ⟨a.gb x,5,none⟩=some (.int .u32 g.took)∧True:=fun V hV=>⟨cell_below hV xcb,cell_below hV g0,cell_below hV g1,cell_below hV g2,cell_below hV g3,cell_below hV g4,cell_below hV g5,trivial⟩
   have HS:=Lh hS0;have hnew:Below w3.heap.size w3 (w3.drew.alloc (.cells #[.int .u32 g.m.pages,.slice eo g.m.ext.length ec,.slice po g.m.ports.length pc,.bool g.m.con,.int .u32 g.pg,.int .u32 g.took] 276)):=(Below.refl _ _).drew.alloc (Nat.le_refl _) _;have hok:=H.out.ok x g hg;have hSm:Gp.sumL (fun y=>left (.int .i64 y)&& !(Lit.int .i64 y).sameKey (.int .i64 x)) G=Gp.sumL (fun y=>left (.int .i64 y)) G+(g.m.pages+g.pg):=by
    rw[Gp.sumL_meet (f:=fun y=>left (.int .i64 y)) (f':=fun y=>left (.int .i64 y)&& !(Lit.int .i64 y).sameKey (.int .i64 x)) x1 x8 (by exact hlk) (by simp[Lit.sameKey]) (fun y hy=>by
     have:(Lit.int .i64 y).sameKey (.int .i64 x)=false:=by simp[Lit.sameKey];omega
     simp[this]),hg]
    rfl
   have hSb:=(HBd.out fun y=>left (.int .i64 y)&& !(Lit.int .i64 y).sameKey (.int .i64 x)).2;rw[hSm] at hSb;have hft:=HFt.out;obtain⟨w4,hrun,hc4,hm4⟩:=Cps.insert (hcr3.below hnew) x1 x8 (Gp.met_at (f:=fun y=>left (.int .i64 y)) hlk) (g:=g) (gb:=w3.heap.size) (ev:=.slice eo g.m.ext.length ec) (pv:=.slice po g.m.ports.length pc) (heap_alloc_new w3.drew _) (hmn3.below hnew) hok (by rw[HC.out.emb];have:=hg3.size;have:=HC.out.rl;have:=hcr3.lt (.inr (.inl rfl));rw[HC.out.emb] at this;omega) (fun k hk e=>by have:=hcr3.lt (.inr (.inr ⟨k,hk,rfl⟩));omega) (by rw[Gp.met_sum];omega);rw[HC.out.emb] at hrun hm4;have hmet:Gp.upd (Gp.met (fun y=>left (.int .i64 y)) G) x (some g)=Gp.met (fun y=>left (.int .i64 y)&& !(Lit.int .i64 y).sameKey (.int .i64 x)) G:=by
    rw[←hg];exact(Gp.met_step (f:=fun y=>left (.int .i64 y)) (f':=fun y=>left (.int .i64 y)&& !(Lit.int .i64 y).sameKey (.int .i64 x)) hlk (by simp[Lit.sameKey]) (fun y hy=>by
     have:(Lit.int .i64 y).sameKey (.int .i64 x)=false:=by simp[Lit.sameKey];omega
     simp[this])).symm
   rw[hmet] at hc4;have hz3:=hg3.size;have hz4:=hm4.size;have hzr:=HC.out.bel.size;have hza:(w3.drew.alloc (.cells #[.int .u32 g.m.pages,.slice eo g.m.ext.length ec,.slice po g.m.ports.length pc,.bool g.m.con,.int .u32 g.pg,.int .u32 g.took] 276)).heap.size=w3.heap.size+1:=by simp
   have hrg4:w4.ranges Tryz.prog 3 ptrElem a.mb r n D (fun z=>left z&& !z.sameKey (.int .i64 x)) cnt2:=(ranges_below hrg3 hnew).kept (row:=some mb) ⟨hm4.os,hm4.tape,hm4.output,hm4.size,fun k hk hne=>hm4.block k hk (by simpa using hne)⟩ (by simp;have:=HC.out.mb0;omega) (by simp;exact HC.out.rm);have hb4:Below w.heap.size w w4:=Mod.below (below_th hw3b hnew) hm4 (by omega) fun k _ e=>by subst e;exact HC.out.mb0
   have hS4:∀k v i,k≠mb→k<w3.heap.size→w3.cell? ⟨k,i,none⟩=some v→w4.cell? ⟨k,i,none⟩=some v:=fun k v i hne hlt hc=>by
    rw[World.cell?_of_block (a:=⟨k,i,none⟩) (w:=w3.drew.alloc (.cells #[.int .u32 g.m.pages,.slice eo g.m.ext.length ec,.slice po g.m.ports.length pc,.bool g.m.con,.int .u32 g.pg,.int .u32 g.took] 276)) (hm4.block k (by omega) hne)];exact cell_below hnew hc
   have cne:cb≠mb:=by have:=hcr3.head_ne.1;rw[HC.out.ecb,HC.out.emb] at this;exact this
   have gne:a.gb x≠mb:=by have:=HC.out.mb0;omega
   have hS5:w4.cell? ⟨cb,2,none⟩=some (.map (some mb))∧w4.cell? ⟨a.gb x,0,none⟩=some (.int .u32 g.m.pages)∧w4.cell? ⟨a.gb x,1,none⟩=some (.slice eo g.m.ext.length ec)∧w4.cell? ⟨a.gb x,2,none⟩=some (.slice po g.m.ports.length pc)∧w4.cell? ⟨a.gb x,3,none⟩=some (.bool g.m.con)∧w4.cell? ⟨a.gb x,4,none⟩=some (.int .u32 g.pg)∧w4.cell? ⟨a.gb x,5,none⟩=some (.int .u32 g.took)∧True:=by
    have l1:cb<w3.heap.size:=by have:=hcr3.lt (.inl rfl);rw[HC.out.ecb] at this;exact this
    have l2:a.gb x<w3.heap.size:=by have:=HC.out.rl;have:=HC.out.r0;omega
    exact⟨hS4 _ _ _ cne l1 xcb,hS4 _ _ _ gne l2 g0,hS4 _ _ _ gne l2 g1,hS4 _ _ _ gne l2 g2,hS4 _ _ _ gne l2 g3,hS4 _ _ _ gne l2 g4,hS4 _ _ _ gne l2 g5,trivial⟩
   have fin:cpRel w a hp G D n r cb mb w4:=by
    refine⟨_,cnt2,c.put x w3.heap.size (.slice eo g.m.ext.length ec) (.slice po g.m.ports.length pc),hrg4,⟨hc4,hb4,HC.out.ecb,HC.out.emb,HC.out.hv,fun k hk=> ?_,HC.out.cb0,HC.out.mb0,HC.out.r0,HC.out.rm,fun k hk=> ?_,by have:=HC.out.rl;omega⟩⟩
    ·by_cases e:k=x
     ·subst e;obtain⟨e1,e2,e3⟩:=c.put_at k w3.heap.size (.slice eo g.m.ext.length ec) (.slice po g.m.ports.length pc);rw[e1,e2,e3,hev,hpv];exact⟨rfl,rfl,by have:=HC.out.rl;have:=HC.out.r0;omega⟩
     ·obtain⟨e1,e2,e3⟩:=c.put_ne w3.heap.size (.slice eo g.m.ext.length ec) (.slice po g.m.ports.length pc) e;rw[e1,e2,e3];refine HC.out.ev k ?_;have hk':(Gp.met (fun y=>left (.int .i64 y)&& !(Lit.int .i64 y).sameKey (.int .i64 x)) G k).isSome=true:=hk;rw[←hmet,Gp.upd_ne _ _ e] at hk';exact hk'
    ·have hput:∀n,(Gp.met (fun y=>left (.int .i64 y)&& !(Lit.int .i64 y).sameKey (.int .i64 x)) G n).isSome=true→n=x∨(Gp.met (fun y=>left (.int .i64 y)) G n).isSome=true:=fun n hn=>by
      by_cases e:n=x
      ·exact .inl e
      ·rw[←hmet,Gp.upd_ne _ _ e] at hn;exact .inr hn
     rcases hk with(e|e|⟨n,hn,e⟩)|⟨n,hn,e⟩
     ·exact HC.out.nr k (.inl (.inl e))
     ·exact HC.out.nr k (.inl (.inr (.inl e)))
     ·by_cases q:n=x
      ·subst q;rw[(c.put_at n w3.heap.size (.slice eo g.m.ext.length ec) (.slice po g.m.ports.length pc)).1] at e;have:=HC.out.rl;omega
      ·rw[(c.put_ne w3.heap.size (.slice eo g.m.ext.length ec) (.slice po g.m.ports.length pc) q).1] at e;exact HC.out.nr k (.inl (.inr (.inr ⟨n,(hput n hn).resolve_left q,e⟩)))
     ·by_cases q:n=x
      ·subst q;obtain⟨e1,e2,e3⟩:=c.put_at n w3.heap.size (.slice eo g.m.ext.length ec) (.slice po g.m.ports.length pc);rw[e2,e3,←hev,←hpv] at e;have:=HRf.out k ⟨n,by rw[hg];rfl,e⟩;have:=HC.out.r0;omega
      ·obtain⟨e1,e2,e3⟩:=c.put_ne w3.heap.size (.slice eo g.m.ext.length ec) (.slice po g.m.ports.length pc) q;rw[e2,e3] at e;exact HC.out.nr k (.inr ⟨n,(hput n hn).resolve_left q,e⟩)
   have Fin:=Lh fin;have hml:w4.rangeLeft a.mb r<cnt:=by rw[hrg4.left_eq];exact hlt
   have hml0:=Hrg.out.left_eq;have HMl:Hid (w4.rangeLeft a.mb r<wr.rangeLeft a.mb r):=Lh (by rw[hml0];exact hml);have HRun:=Lh hrun;have HS5:=Lh hS5;have hS:=HS.out w3.drew (Below.refl _ _).drew;have HSA:=Lh (HS.out _ hnew);clear fin hml hml0 hrun hS5 hS4 hS0 hrg4 hb4 hc4 hm4 hcr3 hnew hmn3 hA3 hw3b hrg3 hat3 hR hkey ex hwx hlk hSm hSb hft hmet hza hz4 g0 g1 g2 g3 g4 g5 xcb hok HC Hrg hg3 hz3 hs3 hlt;go_wp2_with fail;refine B (fun V=>V.cell? ⟨cb,2,none⟩=some (.map (some mb))∧V.cell? ⟨a.gb x,0,none⟩=some (.int .u32 g.m.pages)∧V.cell? ⟨a.gb x,1,none⟩=some (.slice eo g.m.ext.length ec)∧V.cell? ⟨a.gb x,2,none⟩=some (.slice po g.m.ports.length pc)∧V.cell? ⟨a.gb x,3,none⟩=some (.bool g.m.con)∧V.cell? ⟨a.gb x,4,none⟩=some (.int .u32 g.pg)∧V.cell? ⟨a.gb x,5,none⟩=some (.int .u32 g.took)∧True) hS ?_;intro wd hwd hS;have HWd:=Lh hwd;clear hwd;refine T 0 hS ?_;refine T 1 hS ?_;refine T 2 hS ?_;refine T 3 hS ?_;refine T 4 hS ?_;refine T 5 hS ?_;refine T 6 hS ?_;refine T 7 hS ?_;refine T 8 hS ?_;refine T 9 hS ?_;refine T 10 hS ?_;refine T 11 hS ?_;refine T 12 hS ?_;refine T 13 hS ?_;refine T 14 hS ?_;refine T 15 hS ?_;refine T 16 hS ?_;refine T 17 hS ?_;clear hS;refine U 18 fun K hK=> ?_
   go_simp;rw[HWd.out];refine V hK HSA.out ?_;clear hK K;refine U 19 fun K hK=> ?_
   have hrun:=HRun.out;rw[show∀o,w3.drew.alloc o=(w3.alloc o).drew from fun _=>rfl] at hrun;go_simp;refine V hK HS5.out ?_;clear hK K;clear hrun;refine wpAnyH_done (by kernel_rfl) ?_ _;go_wp2;exact⟨Fin.out,HMl.out⟩
end
end Ca
namespace Cl
theorem clone_el{w:World}{a:Option Addr}{n cap:Nat}{xs:List Value}(hl:xs.length=n*1)(hc:At w a xs)(hs:n≤2000000)(h1:∀u,u∈xs→u.oneCell'=true):
  Calls Tryz.prog 83 #[.slice a n cap] w fun e w'=>∃v',e=.returned v'∧SlV w' 9 1 v' n xs∧(∃d,Ni.slcElem v'=some (d,[]))∧(∀b,v'.ownBlock=some b→w.heap.size≤b∧b<w'.heap.size)∧Below w.heap.size w w':=by
 by_cases h0:n=0
 ·subst h0;obtain rfl:xs=[]:=List.length_eq_zero_iff.1 (by omega);clear hc;cases a with
  |none=>
   have hq:=fun W=>Lib.run_eql_slice_nil (P:=Tryz.prog) W _ _ none 0 cap 0 0 Tryz.underlying35
   go_enter func83,ntmps83;go_wp2
   first
    |(go_ret;exact⟨_,rfl,SlV.nil _ _ _,⟨_,rfl⟩,fun b hb=>(nomatch hb),Below.refl _ _⟩)
    |(refine bodyPost_ret (v:=.slice none 0 0) (by simp[results,Tryz.results83,go_sem, *]) rfl ?_;exact⟨_,rfl,SlV.nil _ _ _,⟨_,rfl⟩,fun b hb=>(nomatch hb),Below.refl _ _⟩)
  |some p=>
   have hq:=fun W=>Lib.run_eql_slice_nil (P:=Tryz.prog) W _ _ (some p) 0 cap 0 0 Tryz.underlying35
   have HB:Hid (Below w.heap.size w (w.alloc (.cells #[] 9))):=Lh ((Below.refl _ _).alloc (Nat.le_refl _) _);have HL:Hid (SlV (w.alloc (.cells #[] 9)) 9 1 (.slice (some ⟨w.heap.size,0,none⟩) 0 0) 0 []):=Lh ⟨rfl,.inl ⟨rfl,_,rfl⟩⟩;go_enter func83,ntmps83;go_wp2;go_ret;exact⟨_,rfl,HL.out,⟨_,rfl⟩,fun b hb=>by injection hb with hb;exact⟨Nat.le_of_eq hb,by rw[←hb];simp⟩,HB.out⟩
 ·exact(clone_str hl hc hs h1).mono fun e w' ⟨v,k1,k2,k3,k4⟩=>⟨v,k1,k2,Ni.slcElem_some k2 (by omega),k3,k4⟩
end Cl
theorem ranges_below'{V W:World}{k:TypeId}{R:Value→Option (DataW Unit×List MemPlace)}{b r n:Nat}{D:DataW Unit}{left:Lit→Bool}{cnt:Nat}(h:V.ranges Tryz.prog k R b r n D left cnt)(hb:Below V.heap.size V W):W.ranges Tryz.prog k R b r n D left cnt:=h.kept (row:=none) ⟨hb.os,hb.tape,hb.output,hb.size,fun k hk _=>hb.block k hk⟩ (by simp) (by simp)
theorem cellLt{w:World}{b i:Nat}{v:Value}(h:w.cell? ⟨b,i,none⟩=some v):b<w.heap.size:=by
 unfold World.cell? at h;cases hg:w.heap[b]? with
 |none=>rw[hg] at h;cases h
 |some _=>exact lt_of_block hg
namespace Ni
def qMet(f:Int→Bool)(S:NicS)(x:Int):List ByteArray:=if f x=true then [] else S.q x
structure CpR(w:World)(S:NicS)(f:Int→Bool)(nb mb r:Nat)(V:Int→Value)(ps:List Int)(wr:World):Prop where
 n:Nc wr nb mb V (.slice none 0 0) ⟨ps,qMet f S,[],0⟩
 ps:∀x,x∈ps↔x∈S.ports∧f x=false
 nil:∀x,f x=true→V x=.slice none 0 0
 own:∀x k,(V x).ownBlock=some k→w.heap.size≤k∧k≠r
 bel:Below w.heap.size w wr
 n0:w.heap.size≤nb∧nb≠r
 m0:w.heap.size≤mb∧mb≠r
 r0:w.heap.size≤r∧r<wr.heap.size
def cpRel(w:World)(om:Nat)(S:NicS)(D:DataW Unit)(n r nb mb:Nat)(wr:World):Prop:=
 ∃left cnt V ps,wr.ranges Tryz.prog 31 slcElem om r n D left cnt∧CpR w S (fun x=>left (.int .u16 x)) nb mb r V ps wr
theorem q_none{w:World}{nb mb:Nat}{V:Int→Value}{sv:Value}{S:NicS}(h:Nc w nb mb V sv S){x:Int}(hx:x∉S.ports):S.q x=[]:=by
 obtain⟨D,n,ho,hv,hs,hh⟩:=h.map;have h1:Maps.has D (.int .u16 x)=false:=by rw[hh];exact decide_eq_false hx
 have h2:D.atKey (.int .u16 x) nilD=nilD:=Maps.atKey_of_not_has h1 nilD;have h3:=hv x;rw[h2] at h3;have h4:V x=.slice none 0 0:=slcElem_inj h3 (show slcElem (.slice none 0 0)=some (nilD,[]) from rfl);have h5:=h.rows x;rw[h4] at h5;rcases h5.2 with⟨g,_⟩|⟨g,off,cap,cur,e,_⟩
 ·exact List.length_eq_zero_iff.1 g
 ·simp at e
def CopyP(w:World)(S:NicS)(e:Ending)(w':World):Prop:=∃nb mb V sv,e=.returned (.pointer (some ⟨nb,0,none⟩))∧Nc w' nb mb V sv S∧(∀k,foot nb mb V sv k→w.heap.size≤k)∧Below w.heap.size w w'
section
variable {w:World} {ob om:Nat} {V0:Int→Value} {sv0:Value} {S:NicS}
theorem copy(h:Nc w ob om V0 sv0 S)(hsl:S.sent.length≤2000000):Calls Tryz.prog 82 #[.pointer (some ⟨ob,0,none⟩)] w (CopyP w S):=by
 have K:=Maps.int_keyed (P:=Tryz.prog) Tryz.underlying31;obtain⟨D,n,ho,hv,hs,hh⟩:=h.map;have Hv:=Lh hv;have Hh:=Lh hh;have H:=Lh h;have Ho:=Lh fun V (hV:Below w.heap.size w V)=>own_of_block ho (hV.block _ (h.lt om (.inr (.inl rfl))))
 have HNew:=Lh (new w);have HSl:=Lh hsl;obtain⟨so,sc,hsv⟩:=h.sent.form;have HSv:=Lh hsv;have HFin:Hid (∀V nb mb V' sv',Nc V nb mb V' sv' S→(∀k,foot nb mb V' sv' k→w.heap.size≤k)→Below w.heap.size w V→CopyP w S (.returned (.pointer (some ⟨nb,0,none⟩))) V):=Lh fun V nb mb V' sv' k1 k2 k3=>⟨nb,mb,V',sv',rfl,k1,k2,k3⟩
 generalize CopyP w S=PQ at*;clear hsv hsl ho hv hs hh h;go_enter func82,ntmps82;go_wp2_with fail;refine HNew.out.mono ?_;rintro e w1 ⟨rfl,hn1,hb1,hz1⟩;have d0:=cell_below hb1 H.out.cellMap;have HB1:=Lh hb1;have HN1:=Lh hn1;have HO1:=Lh (Ho.out w1 hb1);have hz:=Lh hz1;clear hn1 hb1 hz1;go_wp2_with (at_range;refine wpList_range_own _ rfl _ 159 rfl 31 35 K Tryz.underlying159 slcElem om n D rfl HO1.out ?_;intro w2 hrg hg2 hz2);obtain⟨nb,hnb⟩:∃x,w.heap.size+1=x:=⟨_,rfl⟩;obtain⟨mb,hmb⟩:∃x,w.heap.size=x:=⟨_,rfl⟩;obtain⟨r,hr⟩:∃x,w1.heap.size=x:=⟨_,rfl⟩;have h2:cpRel w om S D n r nb mb w2:=by
  have hzz:=hz.out;rw[hr] at hrg hzz hz2;have hbg:Below w1.heap.size w1 w2:=(Below.refl _ _).grown hg2 (Nat.le_refl _) (fun k e=>by cases e);have hn2:=HN1.out.keep (G:=fun _=>False) (Mod.of_below hbg _) fun _ _ g=>g
  rw[hnb,hmb] at hn2;refine⟨_,_,_,[],hrg,⟨?_,fun x=> ?_,fun x hx=>rfl,fun x k hk=>(by cases hk),below_th HB1.out hbg,by omega,by omega,by omega⟩⟩
  ·have hq:qMet (fun x=>Maps.has D (.int .u16 x)) S=fun _=>[]:=by
    funext x
    unfold qMet
    split
    ·rfl
    ·rename_i g
     exact q_none H.out fun hx=>g (by show Maps.has D (.int .u16 _)=true;rw[Hh.out];exact decide_eq_true hx)
   rw[hq];exact hn2
  ·show _↔_∧Maps.has D (.int .u16 x)=false
   rw[Hh.out]
   simp
 have H2:=Lh h2;have hz0:=hz.out;rw[show w.heap.size+1=nb from hnb,show w1.heap.size=r from hr];clear hr hrg hg2 hz2 h2 hz hz0 HN1 HO1 HB1 hnb hmb d0 HNew Ho;try go_frame
 go_loopw [4,5] (fun _ _ wr=>cpRel w om S D n r nb mb wr) (fun _ _ wr=>wr.rangeLeft om r)
 case atStart=>exact H2.out
 case round=>
  clear H2;obtain⟨left,cnt,V1,ps,hrg,hcr⟩:=hrel;have Hrg:=Lh hrg;have HC:=Lh hcr;clear hrg hcr;go_wp2_with (at_next;refine wpList_next_ranges _ rfl _ rfl 31 K slcElem (Value.int .u16) id (fun key kl hk=>by obtain⟨x,hx,_⟩:=Maps.keyOf_int_inv Tryz.underlying31 hk;exact⟨x,hx⟩) (fun v _ _=>⟨v,rfl⟩) om r n D left cnt rfl Hrg.out ?_ ?_)
  ·intro hc0 hl0;have hq:qMet (fun x=>left (.int .u16 x)) S=S.q:=by
    funext x
    show(if left (.int .u16 x)=true then [] else S.q x)=S.q x
    rw[hl0];rfl
   have hn:=HC.out.n;rw[hq] at hn;have hps:∀x,x∈ps↔x∈S.ports:=fun x=>by rw[HC.out.ps,hl0];simp
   have hA:=H.out.keep (G:=fun _=>False) (Mod.of_below HC.out.bel _) fun _ _ g=>g
   have hob:=hA.lt ob (.inl rfl);have obl:=H.out.lt ob (.inl rfl);have hx1:=hA.cellSent;rw[HSv.out] at hx1;have hx2:=hA.cellGone;have HS:Hid (∀W,Below wr.heap.size wr W→W.cell? ⟨ob,1,none⟩=some (.slice so S.sent.length sc)∧W.cell? ⟨ob,2,none⟩=some (.int .i64 S.gone)∧True):=Lh fun W hW=>⟨cell_below hW hx1,cell_below hW hx2,trivial⟩
   have hsl:=hA.sent;rw[HSv.out] at hsl;have HCl:=Lh (Cl.clone_str (cap:=sc) (n:=S.sent.length) (by simp) (Cl.At.below (slv_at hsl) (Below.refl _ _).drew) HSl.out (fun u hu=>by obtain⟨f,_,rfl⟩:=List.mem_map.1 hu;rfl));have HN:=Lh hn;have HPs:=Lh hps;have one:=HC.out.n0.1;have HNe:Hid (ob≠nb):=Lh (by omega);have hS:=HS.out wr.drew (Below.refl _ _).drew;have HBd:=Lh (HC.out.bel.drew);clear hq hn hps hA hob hx1 hx2 hsl obl one;go_wp2_with fail;refine B (fun W=>W.cell? ⟨ob,1,none⟩=some (.slice so S.sent.length sc)∧W.cell? ⟨ob,2,none⟩=some (.int .i64 S.gone)∧True) hS ?_;intro wd hwd hS;rw[←hwd] at HCl HBd;have HWd:=Lh hwd;clear hwd;refine T 0 hS ?_;refine T 1 hS ?_;refine T 2 hS ?_;refine T 3 hS ?_;refine T 4 hS ?_;refine T 5 hS ?_;refine T 7 hS ?_;refine T 8 hS ?_;refine T 9 hS ?_;refine T 10 hS ?_;refine U 6 fun K hK=> ?_
   go_simp;go_at_call 83;refine HCl.out.mono ?_;rintro e w5 ⟨v5,rfl,hs5,hv5,hb5⟩;have hbr:Below wr.heap.size wr w5:=by
    have:=HWd.out;subst this;exact(Below.refl _ _).drew.trans hb5
   have hS5:=HS.out w5 hbr;have hn5:Nc w5 nb mb V1 (.slice none 0 0) ⟨ps,S.q,[],0⟩:=HN.out.keep (G:=fun _=>False) (Mod.of_below hbr _) fun _ _ g=>g
   have hnd:Nc wd nb mb V1 (.slice none 0 0) ⟨ps,S.q,[],0⟩:=HN.out.keep (G:=fun _=>False) (by have:=HWd.out;subst this;exact Mod.of_below (Below.refl _ _).drew _) fun _ _ g=>g
   obtain⟨o5,c5,rfl⟩:=hs5.form;have hn6:=hnd.setSent (w1:=w5) (Mod.of_below hb5 _) (.slice o5 S.sent.length c5) S.sent hs5 (by
    cases hq:(Value.slice o5 S.sent.length c5).ownBlock with
    |none=>exact .inl rfl
    |some k=>exact .inr ⟨k,rfl,(hv5 k hq).1⟩) (fun k hk=>(hv5 k hk).2)
   have hn7:=hn6.setGone S.gone;have hm6:Mod (fun k=>k=nb) w5 (w5.setCell ⟨nb,1,none⟩ (.slice o5 S.sent.length c5)):=Mod.setCell (F:=fun k=>k=nb) (Mod.refl _ _) ⟨nb,1,none⟩ (.inl rfl) _;have hm7:Mod (fun k=>k=nb) (w5.setCell ⟨nb,1,none⟩ (.slice o5 S.sent.length c5)) ((w5.setCell ⟨nb,1,none⟩ (.slice o5 S.sent.length c5)).setCell ⟨nb,2,none⟩ (.int .i64 S.gone)):=Mod.setCell (F:=fun k=>k=nb) (Mod.refl _ _) ⟨nb,2,none⟩ (.inl rfl) _;have hcl:∀ {W W':World} {i:Nat} {v:Value},Mod (fun k=>k=nb) W W'→W.cell? ⟨ob,i,none⟩=some v→W'.cell? ⟨ob,i,none⟩=some v:=fun hm hc=>by
    have hl:ob<_:=cellLt hc;rw[World.cell?_of_block (a:=⟨ob,_,none⟩) (w:=_) (hm.block ob hl HNe.out)];exact hc
   have hS6:=And.intro (hcl hm6 hS5.1) (And.intro (hcl hm6 hS5.2.1) trivial);have hS7:=And.intro (hcl hm7 hS6.1) (And.intro (hcl hm7 hS6.2.1) trivial);have HS6:=Lh hS6;have HS7:=Lh hS7;have e1:=hn5.cellSent;have e2:=hn5.free 1;have f1:=hn6.cellGone;have f2:=hn6.free 2;have hb6:Below w.heap.size w ((w5.setCell ⟨nb,1,none⟩ (.slice o5 S.sent.length c5)).setCell ⟨nb,2,none⟩ (.int .i64 S.gone)):=Mod.below (Mod.below (below_th HC.out.bel hbr) hm6 (by have:=HC.out.bel.size;have:=hbr.size;omega) fun k _ e=>by subst e;exact HC.out.n0.1) hm7 (by have:=HC.out.bel.size;have:=hbr.size;have:=hm6.size;omega) fun k _ e=>by subst e;exact HC.out.n0.1
   have HE:=Lh (HFin.out _ nb mb V1 _ (hn7.ports H.out.nodup fun x=>(HPs.out x).symm) (fun k hk=>by
    rcases hk with rfl|rfl|g|⟨x,g⟩
    ·exact HC.out.n0.1
    ·exact HC.out.m0.1
    ·have:=(hv5 k g).1;have:=(show Below w.heap.size w wd from HBd.out).size;omega
    ·exact(HC.out.own x k g).1) hb6)
   clear hn5 hnd hn6 hn7 hm6 hm7 hcl hS6 hS7 hb6 hs5 hv5 hb5 hbr HC HPs HN HBd Hrg H;refine V hK hS5 ?_;clear hK K;refine T 11 hS5 ?_;refine T 12 hS5 ?_;clear hS5;refine U 13 fun K hK=> ?_
   go_simp;refine V hK HS6.out ?_;clear hK K;clear e1 e2;refine T 14 HS6.out ?_;refine T 15 HS6.out ?_;refine U 16 fun K hK=> ?_
   go_simp;refine V hK HS7.out ?_;clear hK K;clear f1 f2;refine wpAnyH_done (by kernel_rfl) ?_ _;go_wp2
   first|exact HE.out|(go_ret;exact HE.out)
  ·intro x u kl y1 y2 w3 cnt2 hkey hlk hR hat3 hrg3 hlt hg3 hs3 hen;obtain⟨x',ex,rfl,hwx⟩:=Maps.keyOf_int_inv Tryz.underlying31 hkey;obtain rfl:x=x':=by simpa using ex
   have hxp:x∈S.ports:=by
    have:=Maps.has_true_of_atKey hat3;rw[Hh.out] at this;exact of_decide_eq_true this
   obtain⟨x0,x1⟩:=H.out.range x hxp;obtain rfl:u=V0 x:=by
    have h3:=Hv.out x;rw[hat3] at h3;exact slcElem_inj hR h3
   have hw3b:Below w.heap.size w w3:=HC.out.bel.grown hg3 HC.out.bel.size (fun k e=>by cases e;exact HC.out.r0.1);have hA3:=H.out.keep (G:=fun _=>False) (Mod.of_below hw3b _) fun _ _ g=>g
   have hn3:=HC.out.n.keep (G:=fun k=>k=r) ⟨hg3.os,hg3.tape,hg3.output,hg3.size,fun k hk hne=>hg3.block k hk (by simpa using hne)⟩ fun k hk e=>by
    subst e;rcases hk with g|g|g|⟨y,g⟩
    ·exact HC.out.n0.2 g.symm
    ·exact HC.out.m0.2 g.symm
    ·cases g
    ·exact(HC.out.own y k g).2 rfl
   have hrow:=hA3.rows x;obtain⟨vo,vc,hvx⟩:=hrow.form;rw[hvx] at hrow hen⊢;have h8:=hA3.small x;have HS:Hid (∀W,Below w3.heap.size w3 W→W.cell? ⟨nb,0,none⟩=some (.map (some mb))∧True):=Lh fun W hW=>⟨cell_below hW hn3.cellMap,trivial⟩
   have HCl:=Lh (Cl.clone_el (cap:=vc) (n:=(S.q x).length) (by simp) (Cl.At.below (slv_at hrow) (Below.refl _ _).drew) (by omega) (fun u hu=>by obtain⟨f,_,rfl⟩:=List.mem_map.1 hu;rfl));have hS:=HS.out w3.drew (Below.refl _ _).drew;have HB3:=Lh hw3b;have HN3:=Lh hn3;have HR3:=Lh hrg3;have HLt:=Lh hlt;have HX:=Lh (And.intro x0 (And.intro x1 (And.intro h8 hxp)));have hz3:=hg3.size;have HLk:Hid (left (.int .u16 x)=true):=Lh hlk;have HZ:=Lh hz3;clear hw3b hA3 hn3 hrow h8 hvx hrg3 hlt hg3 hs3 hat3 hR hkey ex hwx hlk x0 x1 hxp hz3;go_wp2_with fail;refine B (fun W=>W.cell? ⟨nb,0,none⟩=some (.map (some mb))∧True) hS ?_;intro wd hwd hS;rw[←hwd] at HCl;have HWd:=Lh hwd;clear hwd;refine T 0 hS ?_;refine T 1 hS ?_;refine T 2 hS ?_;refine T 3 hS ?_;refine T 4 hS ?_;refine T 5 hS ?_;refine U 6 fun K hK=> ?_
   go_simp;go_at_call 83;refine HCl.out.mono ?_;rintro e w5 ⟨v5,rfl,hs5,hel5,hv5,hb5⟩;have hbr:Below w3.heap.size w3 w5:=by
    have:=HWd.out;subst this;exact(Below.refl _ _).drew.trans hb5
   have hnd:Nc wd nb mb V1 (.slice none 0 0) ⟨ps,qMet (fun y=>left (.int .u16 y)) S,[],0⟩:=HN3.out.keep (G:=fun _=>False) (by have:=HWd.out;subst this;exact Mod.of_below (Below.refl _ _).drew _) fun _ _ g=>g
   have hnx:V1 x=.slice none 0 0:=HC.out.nil x HLk.out;obtain⟨w6,hrun,hn6,hm6⟩:=hnd.store x HX.out.1 HX.out.2.1 (w1:=w5) (Mod.of_below hb5 _) v5 (S.q x) hs5 hel5 (by
    rw[hnx];cases hq:v5.ownBlock with
    |none=>exact .inl rfl
    |some k=>exact .inr ⟨k,rfl,(hv5 k hq).1⟩) (fun k hk=>(hv5 k hk).2) HX.out.2.2.1
   have hps:x∉ps:=fun g=>by
    have:=((HC.out.ps x).1 g).2;rw[HLk.out] at this;cases this
   have hqs:updQ (qMet (fun y=>left (.int .u16 y)) S) x (S.q x)=qMet (fun y=>left (.int .u16 y)&& !(Lit.int .u16 y).sameKey (.int .u16 x)) S:=by
    funext y
    unfold qMet
    by_cases e:y=x
    ·subst e;rw[updQ_same];simp[Lit.sameKey]
    ·rw[updQ_other _ _ _ e];have:(Lit.int .u16 y).sameKey (.int .u16 x)=false:=by simp[Lit.sameKey];omega
     simp[this]
   have hz5:=hbr.size;have hz6:=hm6.size;have hzr:=HC.out.r0;have hz3:=HZ.out;have hmb:mb<wd.heap.size:=hnd.lt mb (.inr (.inl rfl));have hom:om≠mb:=by have:=H.out.lt om (.inr (.inl rfl));have:=HC.out.m0.1;omega
   have hrg6:w6.ranges Tryz.prog 31 slcElem om r n D (fun z=>left z&& !z.sameKey (.int .u16 x)) cnt2:=(ranges_below' HR3.out hbr).kept (row:=some mb) ⟨hm6.os,hm6.tape,hm6.output,hm6.size,fun k hk hne=>hm6.block k hk (by simpa using hne)⟩ (by simpa using hom) (by have:=HC.out.m0.2;simp;omega);have fin:cpRel w om S D n r nb mb w6:=by
    refine⟨_,cnt2,updQ V1 x v5,x::ps,hrg6,⟨?_,fun y=> ?_,fun y hy=> ?_,fun y k hk=> ?_,Mod.below (below_th HB3.out hbr) hm6 (by have:=HB3.out.size;omega) fun k _ e=>by subst e;exact HC.out.m0.1,HC.out.n0,HC.out.m0,⟨HC.out.r0.1,by omega⟩⟩⟩
    ·have:=hn6;unfold qSet putPort at this;rw[if_neg hps,hqs] at this;exact this
    ·rw[List.mem_cons,HC.out.ps]
     by_cases e:y=x
     ·subst e;simp[Lit.sameKey];exact HX.out.2.2.2
     ·have:(Lit.int .u16 y).sameKey (.int .u16 x)=false:=by simp[Lit.sameKey];omega
      simp[this,e]
    ·by_cases e:y=x
     ·subst e;simp[Lit.sameKey] at hy
     ·rw[updQ_other _ _ _ e];exact HC.out.nil y (by simp at hy;exact hy.1)
    ·by_cases e:y=x
     ·subst e;rw[updQ_same] at hk;have:=hv5 k hk;have h3:wd.heap.size=w3.heap.size:=by rw[HWd.out];rfl
      have:=HB3.out.size;exact⟨by omega,by omega⟩
     ·rw[updQ_other _ _ _ e] at hk;exact HC.out.own y k hk
   have Fin:=Lh fin;have hml:w6.rangeLeft om r<cnt:=by rw[hrg6.left_eq];exact HLt.out
   have hml0:=Hrg.out.left_eq;have HMl:Hid (w6.rangeLeft om r<wr.rangeLeft om r):=Lh (by rw[hml0];exact hml);have HRun:=Lh hrun;have HS5:=Lh (HS.out w5 hbr);have HS6:Hid (w6.cell? ⟨nb,0,none⟩=some (.map (some mb))∧True):=Lh ⟨hn6.cellMap,trivial⟩;clear fin hml hml0 hrun hrg6 hom hmb hz3 hzr hz6 hz5 hqs hps hn6 hm6 hnx hnd hbr hs5 hel5 hv5 hb5 HB3 HN3 HR3 HLt HX HC Hrg H HZ HWd HCl;refine V hK HS5.out ?_;clear hK K;refine U 7 fun K hK=> ?_
   have hrun:=HRun.out;go_simp;refine V hK HS6.out ?_;clear hK K;clear hrun;refine wpAnyH_done (by kernel_rfl) ?_ _;go_wp2;exact⟨Fin.out,HMl.out⟩
end
end Ni
end Go.Proofs.YtjjdjpdmgaipeaaGreat
