/- KeCp, Play in one text. -/
import Derived.Test.YtjjdjpdmgaipeaaGreatCpGrantG
import Derived.Test.YtjjdjpdmgaipeaaGreatCpBes22
import Derived.Laws.MakeOwn
import Derived.Test.YtjjdjpdmgaipeaaGreatCpReadA
import Derived.Test.YtjjdjpdmgaipeaaGreatCpZa
set_option linter.unusedVariables false
set_option linter.unusedSimpArgs false
set_option maxRecDepth 100000
set_option maxHeartbeats 16000000
open Go.Proofs.Tryz
namespace Go.Proofs.YtjjdjpdmgaipeaaGreat
open Go.RowKit
namespace Kl
theorem info_rows:(Tryz.prog.info? 35).map (fun i=>(i.zero,i.size,i.bytes))=some (some (.slice none 0 0),1,24):=by kernel_rfl
def cpRel(w4:World)(a:KAt)(K:Kn)(ob kb:Nat)(hd:Array Value)(vi:Value)(wr:World):Prop:=∃(i:Nat) (cur:Array Value),i≤K.B.length∧vi=.int .i64 i∧CpR w4 a K ob kb hd i cur wr
section
variable {w:World} {a:KAt} {K:Kn}
theorem copy(h:Knl w a K)(hs:K.N.sent.length≤2000000)(hB:K.B.length≤2000000)(hBl:∀(i:Nat) (l:List ByteArray),K.B[i]? =some l→l.length≤2000000):Calls Tryz.prog 16 #[.pointer (some ⟨a.kb,0,none⟩)] w (KCopyPost w a K):=by
 have hp0:0≤K.hp:=by
  have h1:=h.caps.fit;have h2:=(Gp.sumL_bd (f:=fun _=>false) h.caps.ok).1;rw[Gp.sumL_none fun _=>rfl] at h2;omega
 obtain⟨mb,V0,sv0,hnc,hnf⟩:=h.nic;have HCa:=Lh fun V (hV:Below w.heap.size w V)=>Ca.copy (h.caps.below hV) hp0 (fun k hk=>by
  have:=h.lt k (by rw[h.t5 k (.inr (.inr hk))];decide);have:=hV.size;omega)
 have HNi:=Lh fun V (hV:Below w.heap.size w V)=>Ni.copy (hnc.keep (G:=fun _=>False) (Mod.of_below hV _) fun _ _ g=>g) hs
 have H:=Lh h;have HF1:Hid (∀V a',Knl V a' K→(∀k,a'.tag k≠0→w.heap.size≤k∨a.tag k=5∧a'.tag k=5)→Below w.heap.size w V→KCopyPost w a K (.returned (.pointer (some ⟨a'.kb,0,none⟩))) V):=Lh fun V a' k1 k2 k3=>⟨a',rfl,k1,k2,k3⟩
 obtain⟨ho,hc,hhv⟩:=(show SlV w _ 1 a.hv _ _ from h.hx).form;obtain⟨bo,bc,hbv⟩:=h.outer.form;rw[h.len] at hbv;obtain⟨c0,c1,c2,c3,c4,c5⟩:=h.cells;rw[hhv] at c1;rw[hbv] at c4;have HHv:=Lh hhv;have HBv:=Lh hbv;have HBl:=Lh hBl;have HS:Hid (∀W,Below w.heap.size w W→W.cell? ⟨a.kb,0,none⟩=some (.int .u32 K.hp)∧W.cell? ⟨a.kb,1,none⟩=some (.slice ho K.hx.length hc)∧W.cell? ⟨a.kb,2,none⟩=some (.pointer (some ⟨a.c.cb,0,none⟩))∧W.cell? ⟨a.kb,3,none⟩=some (.pointer (some ⟨a.nb,0,none⟩))∧W.cell? ⟨a.kb,4,none⟩=some (.slice bo K.B.length bc)∧W.cell? ⟨a.kb,5,none⟩=some (.int .u32 K.now)∧True):=Lh fun W hW=>⟨cQ hW c0,cQ hW c1,cQ hW c2,cQ hW c3,cQ hW c4,cQ hW c5,trivial⟩
 obtain⟨i0,hi0,hz0,hz1,hz2⟩:=info_parts info_rows;have HMk:Hid (∀W:World,(Instr.makeSlice 123 (.int .i64 (K.B.length:Int)) (.int .i64 (K.B.length:Int))).run Tryz.prog W=.ok (.slice (some ⟨W.heap.size,0,none⟩) K.B.length K.B.length) (W.alloc (.cells (madeCells (Value.slice none 0 0).cells (K.B.length*1)) 35))):=Lh fun W=>by
  have hms:=run_makeSlice (P:=Tryz.prog) W 123 35 i0 (.slice none 0 0) Tryz.underlying123 hi0 hz0 .i64 .i64 (K.B.length:Int) (K.B.length:Int) (by omega) (by omega) (by rw[hz1];omega) (by rw[hz2];omega) (by omega);rw[Int.toNat_natCast,hz1] at hms;exact hms
 obtain⟨m,hm⟩:∃m,K.B.length=m:=⟨_,rfl⟩;have HM:=Lh hm;have hS:=HS.out w.drew Br.drew;generalize KCopyPost w a K=PQ at*;rw[hm] at HMk hB hbv;simp only[hm] at HS hS;clear h hnc hnf hs hBl hhv hbv hi0 hz0 hz1 hz2 c0 c1 c2 c3 c4 c5 hm;go_enter func16,ntmps16;go_wp2_with fail;refine B (fun W=>W.cell? ⟨a.kb,0,none⟩=some (.int .u32 K.hp)∧W.cell? ⟨a.kb,1,none⟩=some (.slice ho K.hx.length hc)∧W.cell? ⟨a.kb,2,none⟩=some (.pointer (some ⟨a.c.cb,0,none⟩))∧W.cell? ⟨a.kb,3,none⟩=some (.pointer (some ⟨a.nb,0,none⟩))∧W.cell? ⟨a.kb,4,none⟩=some (.slice bo m bc)∧W.cell? ⟨a.kb,5,none⟩=some (.int .u32 K.now)∧True) hS ?_;intro wd hwd hS;have HBd:Hid (Below w.heap.size w wd):=Lh (by subst hwd;exact Br.drew);have HZd:Hid (wd.heap.size=w.heap.size):=Lh (by subst hwd;rfl);clear hwd;refine T 0 hS ?_;refine T 1 hS ?_;refine T 2 hS ?_;refine T 3 hS ?_;refine T 4 hS ?_;refine T 5 hS ?_;refine T 6 hS ?_;refine T 7 hS ?_;refine T 9 hS ?_;refine T 10 hS ?_;refine T 11 hS ?_;refine T 12 hS ?_;refine T 14 hS ?_;refine T 15 hS ?_;refine T 16 hS ?_;refine T 17 hS ?_;refine T 18 hS ?_;refine T 20 hS ?_;refine T 21 hS ?_;refine T 22 hS ?_;refine T 23 hS ?_;obtain⟨arr,harr⟩:∃arr,madeCells (Value.slice none 0 0).cells (m*1)=arr:=⟨_,rfl⟩;have HArr:Hid (arr.size=m):=Lh (by rw[←harr,size_madeCells];omega);rw[harr] at HMk;clear harr hS;refine U2 8 19 (fun K' hK=> ?b1) (fun K' hK=> ?b2)
 case' b1=>
  go_simp;go_at_call 81;refine(HCa.out wd HBd.out).mono ?_;rintro e w1 ⟨c,rfl,hcc⟩;have HCc:=Lh hcc;have HB1:=Lh (bQ HBd.out hcc.bel);have hS1:=HS.out w1 HB1.out;clear hcc;refine V hK hS1 ?_;clear hK K' hS1;refine U2 13 19 (fun K' hK=> ?b3) (fun K' hK=> ?b4)
 case' b3=>
  go_simp;go_at_call 82;refine(HNi.out w1 HB1.out).mono ?_;rintro e w2 ⟨nb,mb2,V2,sv2,rfl,hn2,hf2,hb2⟩;have HN2:=Lh (And.intro hn2 (And.intro hf2 hb2));have HB2:=Lh (bQ HB1.out hb2);have hS2:=HS.out w2 HB2.out;clear hn2 hf2 hb2;refine V hK hS2 ?_;clear hK K' hS2;refine U 19 fun K' hK=> ?_
  have hmk:=HMk.out w2;have HSa:=Lh (HS.out _ (bQ HB2.out (Br.alloc (Nat.le_refl _) (.cells arr 35))));go_simp;refine V hK HSa.out ?_;clear hK K' hmk;refine T 24 HSa.out ?_;have hbb:Below w.heap.size w ((w2.alloc (.cells arr 35)).alloc (.cells #[.int .u32 K.hp,.slice ho K.hx.length hc,.pointer (some ⟨c.cb,0,none⟩),.pointer (some ⟨nb,0,none⟩),.slice (some ⟨w2.heap.size,0,none⟩) m m,.int .u32 K.now] 155)):=bQ (bQ HB2.out (Br.alloc (Nat.le_refl _) (.cells arr 35))) (Ba _);have HSb:=Lh (HS.out _ hbb);refine U 25 fun K' hK=> ?_
  go_simp;refine V hK HSb.out ?_;clear hK K';refine T 26 HSb.out ?_;refine wpAnyH_done (by kernel_rfl) ?_ _;have hbs:=CpB.parts (w4:=(w2.alloc (.cells arr 35)).alloc (.cells #[.int .u32 K.hp,.slice ho K.hx.length hc,.pointer (some ⟨c.cb,0,none⟩),.pointer (some ⟨nb,0,none⟩),.slice (some ⟨w2.heap.size,0,none⟩) m m,.int .u32 K.now] 155)) (ob:=w2.heap.size) (kb:=w2.heap.size+1) H.out HBd.out HCc.out Br HN2.out.1 HN2.out.2.1 HN2.out.2.2 (bQ (Br.alloc (Nat.le_refl _) (.cells arr 35)) (Ba _)) (by have:=HB2.out.size;simp;omega) (by simp) (by omega);have hob:((w2.alloc (.cells arr 35)).alloc (.cells #[.int .u32 K.hp,.slice ho K.hx.length hc,.pointer (some ⟨c.cb,0,none⟩),.pointer (some ⟨nb,0,none⟩),.slice (some ⟨w2.heap.size,0,none⟩) m m,.int .u32 K.now] 155)).heap[w2.heap.size]? =some (.cells arr 35 (0,0)):=(Below.heap_alloc _ _ _ (by simp)).trans (heap_alloc_new w2 _);have hkb:((w2.alloc (.cells arr 35)).alloc (.cells #[.int .u32 K.hp,.slice ho K.hx.length hc,.pointer (some ⟨c.cb,0,none⟩),.pointer (some ⟨nb,0,none⟩),.slice (some ⟨w2.heap.size,0,none⟩) m m,.int .u32 K.now] 155)).heap[w2.heap.size+1]? =some (.cells #[.int .u32 K.hp,.slice ho K.hx.length hc,.pointer (some ⟨c.cb,0,none⟩),.pointer (some ⟨nb,0,none⟩),.slice (some ⟨w2.heap.size,0,none⟩) m m,.int .u32 K.now] 155 (0,0)):=by have:=heap_alloc_new (w2.alloc (.cells arr 35)) (.cells #[.int .u32 K.hp,.slice ho K.hx.length hc,.pointer (some ⟨c.cb,0,none⟩),.pointer (some ⟨nb,0,none⟩),.slice (some ⟨w2.heap.size,0,none⟩) m m,.int .u32 K.now] 155);simpa using this
  clear HSb hbb HMk HSa;obtain⟨kb,ekb⟩:∃x,w2.heap.size+1=x:=⟨_,rfl⟩;obtain⟨ob,eob⟩:∃x,w2.heap.size=x:=⟨_,rfl⟩;rw[ekb] at hbs hkb⊢;rw[eob] at hbs hob hkb⊢;generalize (w2.alloc (.cells arr 35)).alloc (.cells #[.int .u32 K.hp,.slice ho K.hx.length hc,.pointer (some ⟨c.cb,0,none⟩),.pointer (some ⟨nb,0,none⟩),.slice (some ⟨ob,0,none⟩) m m,.int .u32 K.now] 155)=w4 at*;have HBs:=Lh hbs;have HOb:=Lh hob;have HKb:=Lh hkb;clear hbs hob hkb ekb eob HN2 HCc HB1 HB2 HBd HZd
 case' b4=>
  have hmk:=HMk.out w1;have HSa:=Lh (HS.out _ (bQ HB1.out (Br.alloc (Nat.le_refl _) (.cells arr 35))));go_simp;refine V hK HSa.out ?_;clear hK K' hmk;have HBa:=Lh (bQ HB1.out (Br.alloc (Nat.le_refl _) (.cells arr 35)));refine U 13 fun K' hK=> ?_
  go_simp;go_at_call 82;refine(HNi.out (w1.alloc (.cells arr 35)) HBa.out).mono ?_;rintro e w2 ⟨nb,mb2,V2,sv2,rfl,hn2,hf2,hb2⟩;have HN2:=Lh (And.intro hn2 (And.intro hf2 hb2));have HB2:=Lh (bQ HBa.out hb2);have hS2:=HS.out w2 HB2.out;clear hn2 hf2 hb2;refine V hK hS2 ?_;clear hK K' hS2;refine T 24 (HS.out w2 HB2.out) ?_;have hbb:Below w.heap.size w ((w2).alloc (.cells #[.int .u32 K.hp,.slice ho K.hx.length hc,.pointer (some ⟨c.cb,0,none⟩),.pointer (some ⟨nb,0,none⟩),.slice (some ⟨w1.heap.size,0,none⟩) m m,.int .u32 K.now] 155)):=bQ HB2.out (Ba _);have HSb:=Lh (HS.out _ hbb);refine U 25 fun K' hK=> ?_
  go_simp;refine V hK HSb.out ?_;clear hK K';refine T 26 HSb.out ?_;refine wpAnyH_done (by kernel_rfl) ?_ _;have hbs:=CpB.parts (w4:=w2.alloc (.cells #[.int .u32 K.hp,.slice ho K.hx.length hc,.pointer (some ⟨c.cb,0,none⟩),.pointer (some ⟨nb,0,none⟩),.slice (some ⟨w1.heap.size,0,none⟩) m m,.int .u32 K.now] 155)) (ob:=w1.heap.size) (kb:=w2.heap.size) H.out HBd.out HCc.out (Br.alloc (Nat.le_refl _) (.cells arr 35)) HN2.out.1 HN2.out.2.1 HN2.out.2.2 (Ba _) (by have:=HB1.out.size;have:=HN2.out.2.2.size;simp at this⊢;omega) (by simp) (by have:=HN2.out.2.2.size;simp at this;omega);have hob:((w2).alloc (.cells #[.int .u32 K.hp,.slice ho K.hx.length hc,.pointer (some ⟨c.cb,0,none⟩),.pointer (some ⟨nb,0,none⟩),.slice (some ⟨w1.heap.size,0,none⟩) m m,.int .u32 K.now] 155)).heap[w1.heap.size]? =some (.cells arr 35 (0,0)):=(Below.heap_alloc _ _ _ (by have:=HN2.out.2.2.size;simp at this;omega)).trans ((HN2.out.2.2.block _ (by simp)).trans (heap_alloc_new w1 _));have hkb:((w2).alloc (.cells #[.int .u32 K.hp,.slice ho K.hx.length hc,.pointer (some ⟨c.cb,0,none⟩),.pointer (some ⟨nb,0,none⟩),.slice (some ⟨w1.heap.size,0,none⟩) m m,.int .u32 K.now] 155)).heap[w2.heap.size]? =some (.cells #[.int .u32 K.hp,.slice ho K.hx.length hc,.pointer (some ⟨c.cb,0,none⟩),.pointer (some ⟨nb,0,none⟩),.slice (some ⟨w1.heap.size,0,none⟩) m m,.int .u32 K.now] 155 (0,0)):=heap_alloc_new w2 _;clear HSb hbb HMk HSa;obtain⟨kb,ekb⟩:∃x,w2.heap.size=x:=⟨_,rfl⟩;obtain⟨ob,eob⟩:∃x,w1.heap.size=x:=⟨_,rfl⟩;rw[ekb] at hbs hkb⊢;rw[eob] at hbs hob hkb⊢;generalize (w2).alloc (.cells #[.int .u32 K.hp,.slice ho K.hx.length hc,.pointer (some ⟨c.cb,0,none⟩),.pointer (some ⟨nb,0,none⟩),.slice (some ⟨ob,0,none⟩) m m,.int .u32 K.now] 155)=w4 at*;have HBs:=Lh hbs;have HOb:=Lh hob;have HKb:=Lh hkb;clear hbs hob hkb ekb eob HN2 HCc HB1 HB2 HBd HZd HBa
 case' b2=>
  have hmk:=HMk.out wd;have HSa:=Lh (HS.out _ (bQ HBd.out (Br.alloc (Nat.le_refl _) (.cells arr 35))));go_simp;refine V hK HSa.out ?_;clear hK K' hmk;have HBa:=Lh (bQ HBd.out (Br.alloc (Nat.le_refl _) (.cells arr 35)));refine U 8 fun K' hK=> ?_
  go_simp;go_at_call 81;refine(HCa.out (wd.alloc (.cells arr 35)) HBa.out).mono ?_;rintro e w1 ⟨c,rfl,hcc⟩;have HCc:=Lh hcc;have HB1:=Lh (bQ HBa.out hcc.bel);have hS1:=HS.out w1 HB1.out;clear hcc;refine V hK hS1 ?_;clear hK K' hS1;refine U 13 fun K' hK=> ?_
  go_simp;go_at_call 82;refine(HNi.out w1 HB1.out).mono ?_;rintro e w2 ⟨nb,mb2,V2,sv2,rfl,hn2,hf2,hb2⟩;have HN2:=Lh (And.intro hn2 (And.intro hf2 hb2));have HB2:=Lh (bQ HB1.out hb2);have hS2:=HS.out w2 HB2.out;clear hn2 hf2 hb2;refine V hK hS2 ?_;clear hK K' hS2;refine T 24 (HS.out w2 HB2.out) ?_;have hbb:Below w.heap.size w ((w2).alloc (.cells #[.int .u32 K.hp,.slice ho K.hx.length hc,.pointer (some ⟨c.cb,0,none⟩),.pointer (some ⟨nb,0,none⟩),.slice (some ⟨wd.heap.size,0,none⟩) m m,.int .u32 K.now] 155)):=bQ HB2.out (Ba _);have HSb:=Lh (HS.out _ hbb);refine U 25 fun K' hK=> ?_
  go_simp;refine V hK HSb.out ?_;clear hK K';refine T 26 HSb.out ?_;refine wpAnyH_done (by kernel_rfl) ?_ _;have hbs:=CpB.parts (w4:=w2.alloc (.cells #[.int .u32 K.hp,.slice ho K.hx.length hc,.pointer (some ⟨c.cb,0,none⟩),.pointer (some ⟨nb,0,none⟩),.slice (some ⟨wd.heap.size,0,none⟩) m m,.int .u32 K.now] 155)) (ob:=wd.heap.size) (kb:=w2.heap.size) H.out HBa.out HCc.out Br HN2.out.1 HN2.out.2.1 HN2.out.2.2 (Ba _) (by have:=HBd.out.size;have h1:=HCc.out.bel.size;have:=HN2.out.2.2.size;simp at h1⊢;omega) (by simp) (by have h1:=HCc.out.bel.size;have:=HN2.out.2.2.size;simp at h1;omega);have hob:((w2).alloc (.cells #[.int .u32 K.hp,.slice ho K.hx.length hc,.pointer (some ⟨c.cb,0,none⟩),.pointer (some ⟨nb,0,none⟩),.slice (some ⟨wd.heap.size,0,none⟩) m m,.int .u32 K.now] 155)).heap[wd.heap.size]? =some (.cells arr 35 (0,0)):=(Below.heap_alloc _ _ _ (by have h1:=HCc.out.bel.size;have:=HN2.out.2.2.size;simp at h1;omega)).trans ((HN2.out.2.2.block _ (by have h1:=HCc.out.bel.size;simp at h1;omega)).trans ((HCc.out.bel.block _ (by simp)).trans (heap_alloc_new wd _)));have hkb:((w2).alloc (.cells #[.int .u32 K.hp,.slice ho K.hx.length hc,.pointer (some ⟨c.cb,0,none⟩),.pointer (some ⟨nb,0,none⟩),.slice (some ⟨wd.heap.size,0,none⟩) m m,.int .u32 K.now] 155)).heap[w2.heap.size]? =some (.cells #[.int .u32 K.hp,.slice ho K.hx.length hc,.pointer (some ⟨c.cb,0,none⟩),.pointer (some ⟨nb,0,none⟩),.slice (some ⟨wd.heap.size,0,none⟩) m m,.int .u32 K.now] 155 (0,0)):=heap_alloc_new w2 _;clear HSb hbb HMk HSa;obtain⟨kb,ekb⟩:∃x,w2.heap.size=x:=⟨_,rfl⟩;obtain⟨ob,eob⟩:∃x,wd.heap.size=x:=⟨_,rfl⟩;rw[ekb] at hbs hkb⊢;rw[eob] at hbs hob hkb⊢;generalize (w2).alloc (.cells #[.int .u32 K.hp,.slice ho K.hx.length hc,.pointer (some ⟨c.cb,0,none⟩),.pointer (some ⟨nb,0,none⟩),.slice (some ⟨ob,0,none⟩) m m,.int .u32 K.now] 155)=w4 at*;have HBs:=Lh hbs;have HOb:=Lh hob;have HKb:=Lh hkb;clear hbs hob hkb ekb eob HN2 HCc HB1 HB2 HBd HZd HBa
 all_goals
  have hst:cpRel w4 a K ob kb #[.int .u32 K.hp,.slice ho K.hx.length hc,.pointer (some ⟨c.cb,0,none⟩),.pointer (some ⟨nb,0,none⟩),.slice (some ⟨ob,0,none⟩) m m,.int .u32 K.now] (.int .i64 0) w4:=⟨0,arr,Nat.zero_le _,rfl,⟨Mod.refl _ _,HOb.out,by rw[HArr.out,HM.out],HKb.out,fun j v l hj=>absurd hj (Nat.not_lt_zero _),fun j v k hj=>absurd hj (Nat.not_lt_zero _),fun j q v u k hj=>absurd hj (Nat.not_lt_zero _)⟩⟩;have HSt:=Lh hst;obtain⟨_,_,_,_,d4,_,_⟩:=HS.out w4 HBs.out.bel;clear hst HOb HKb HArr;go_wp2;clear d4;go_loopw [4,5,39] (fun _ _ vi wr=>cpRel w4 a K ob kb #[.int .u32 K.hp,.slice ho K.hx.length hc,.pointer (some ⟨c.cb,0,none⟩),.pointer (some ⟨nb,0,none⟩),.slice (some ⟨ob,0,none⟩) m m,.int .u32 K.now] vi wr) (fun _ _ vi _=>m - (intOf vi).toNat)
  case atStart=>exact HSt.out
  case round=>
   clear HSt;obtain⟨i,cur,hi,rfl,hr⟩:=hrel;have HR:=Lh hr;have hbr:=Mod.below HBs.out.bel hr.old HBs.out.bel.size fun k _ e=>by subst e;exact HBs.out.ol.1
   have HBr:=Lh hbr;rw[HM.out] at hi;clear hr hbr
   by_cases hin:i<m
   ·have hin':i<K.B.length:=by rw[HM.out];exact hin
    have hl:K.B[i]? =some K.B[i]:=Zg hin';obtain⟨bg,boff,bc2,ra,rc,e1,e2,e3,e4⟩:=row_at (H.out.below HBr.out) hl;rw[HBv.out] at e1;simp only[Value.slice.injEq] at e1;obtain⟨rfl,_,rfl⟩:=e1;have hll:=HBl.out i _ hl;have HL:=Lh hl;generalize K.B[i]=l at*;have ii:(i:Int)<m:=by omega
    have i0:(0:Int)≤i:=by omega
    have HCl:=Lh (Cl.clone_str (cap:=rc) (n:=l.length) (by simp) (Cl.At.below (slv_at e4) Br.drew) hll (fun u hu=>by obtain⟨f,_,rfl⟩:=List.mem_map.1 hu;rfl));have hk4:wr.cell? ⟨kb,4,none⟩=some (.slice (some ⟨ob,0,none⟩) m m):=by unfold World.cell?;rw[HR.out.hkb];rfl
    have HS4:Hid (∀W,Below wr.heap.size wr W→W.cell? ⟨kb,4,none⟩=some (.slice (some ⟨ob,0,none⟩) m m)∧True):=Lh fun W hW=>⟨cQ hW hk4,trivial⟩
    have hS:=HS4.out wr.drew Br.drew;clear hll hl hk4 e2 e4 hin';go_wp2_with fail;clear e3;refine B (fun W=>W.cell? ⟨kb,4,none⟩=some (.slice (some ⟨ob,0,none⟩) m m)∧True) hS ?_;intro wd hwd hS;rw[←hwd] at HCl;have HWd:=Lh hwd;clear hwd;refine T 0 hS ?_;refine T 1 hS ?_;refine T 2 hS ?_;refine T 3 hS ?_;refine T 4 hS ?_;refine T 5 hS ?_;refine U 6 fun K' hK=> ?_
    go_simp;go_at_call 83;refine HCl.out.mono ?_;rintro e w5 ⟨v5,rfl,hs5,hv5,hb5⟩;obtain⟨o5,c5,rfl⟩:=hs5.form;have hbr:Below wr.heap.size wr w5:=by
     have:=HWd.out;subst this;exact Br.drew.trans hb5
    have hzd:wd.heap.size=wr.heap.size:=by rw[HWd.out];rfl
    have hob5:=(hbr.block _ (lQ HR.out.hob)).trans HR.out.hob;have hkb5:=(hbr.block _ (lQ HR.out.hkb)).trans HR.out.hkb;have hm6:Mod (fun k=>k=ob) w5 (w5.setCell ⟨ob,i,none⟩ (.slice o5 l.length c5)):=Mod.setCell (F:=fun k=>k=ob) (Mod.refl _ _) ⟨ob,i,none⟩ (.inl rfl) _;have hob6:=heap_setCell_same w5 ob i _ _ (.slice o5 l.length c5) hob5;have hz2:=HR.out.old.size;have hz5:=hbr.size;have hz6:=hm6.size;have lo:=lQ HR.out.hob;have lk:=lQ HR.out.hkb;have hset:∀(j:Nat) (v:Value),(cur.setIfInBounds i (.slice o5 l.length c5))[j]? =some v→j=i∧v=.slice o5 l.length c5∨j≠i∧cur[j]? =some v:=fun j v hv=>by
     rw[Array.getElem?_setIfInBounds] at hv
     by_cases e:i=j
     ·rw[if_pos e] at hv
      split at hv
      ·exact .inl ⟨e.symm,(Option.some.inj hv).symm⟩
      ·cases hv
     ·rw[if_neg e] at hv;exact .inr ⟨fun z=>e z.symm,hv⟩
    have fin:cpRel w4 a K ob kb #[.int .u32 K.hp,.slice ho K.hx.length hc,.pointer (some ⟨c.cb,0,none⟩),.pointer (some ⟨nb,0,none⟩),.slice (some ⟨ob,0,none⟩) m m,.int .u32 K.now] (.int .i64 ((i:Int)+1)) (w5.setCell ⟨ob,i,none⟩ (.slice o5 l.length c5)):=by
     refine⟨i+1,_,by rw[HM.out];omega,by simp,⟨(HR.out.old.same (Mod.of_below hbr _)).same hm6,hob6,by rw[Array.size_setIfInBounds];exact HR.out.sz,(hm6.block _ (lQ hkb5) HBs.out.ne).trans hkb5,fun j v lj hj hv hlj=> ?_,fun j v k hj hv hk=> ?_,fun j q v u k hj hq hv hu hk1 hk2=> ?_⟩⟩
     ·rcases hset j v hv with⟨e1,e2⟩|⟨e1,e2⟩
      ·subst e1;subst e2;rw[HL.out] at hlj;cases hlj;exact hs5.mod hm6 fun k hk e=>by have:=(hv5 k hk).1;omega
      ·exact((HR.out.row j v lj (by omega) e2 hlj).below hbr).mod hm6 fun k hk e=>by have:=(HR.out.own j v k (by omega) e2 hk).1;have:=HBs.out.ol.2;omega
     ·rcases hset j v hv with⟨e1,e2⟩|⟨e1,e2⟩
      ·subst e2;have:=hv5 k hk;exact⟨by omega,by omega⟩
      ·have:=HR.out.own j v k (by omega) e2 hk;exact⟨this.1,by omega⟩
     ·rcases hset j v hv with⟨e1,e2⟩|⟨e1,e2⟩
      ·rcases hset q u hu with⟨f1,f2⟩|⟨f1,f2⟩
       ·omega
       ·subst e2;have:=(hv5 k hk1).1;have:=(HR.out.own q u k (by omega) f2 hk2).2;omega
      ·rcases hset q u hu with⟨f1,f2⟩|⟨f1,f2⟩
       ·subst f2;have:=(hv5 k hk2).1;have:=(HR.out.own j v k (by omega) e2 hk1).2;omega
       ·exact HR.out.dist j q v u k (by omega) (by omega) e2 f2 hk1 hk2
    have Fin:=Lh fin;have hs5c:∃y,w5.cell? ⟨ob,i,none⟩=some y:=by
     have:i<cur.size:=by rw[HR.out.sz,HM.out];exact hin
     refine⟨cur[i], ?_⟩;unfold World.cell?;rw[hob5];simp[this]
    obtain⟨y,hy⟩:=hs5c;have hfz:w5.frozen? ⟨ob,i,none⟩=false:=by unfold World.frozen?;rw[hob5];simp
    have hS5:=HS4.out w5 hbr;have hk6:(w5.setCell ⟨ob,i,none⟩ (.slice o5 l.length c5)).cell? ⟨kb,4,none⟩=some (.slice (some ⟨ob,0,none⟩) m m):=by
     rw[World.cell?_of_block (a:=⟨kb,4,none⟩) (w:=w5) (hm6.block kb (lQ hkb5) HBs.out.ne)];exact hS5.1
    have HS6:Hid ((w5.setCell ⟨ob,i,none⟩ (.slice o5 l.length c5)).cell? ⟨kb,4,none⟩=some (.slice (some ⟨ob,0,none⟩) m m)∧True):=Lh ⟨hk6,trivial⟩;clear fin hset hob6 hm6 hob5 hkb5 hzd hbr hs5 hv5 hb5 hz2 hz5 hz6 lo lk hk6 HCl HWd HR HL;refine V hK hS5 ?_;clear hK K';refine T 7 hS5 ?_;clear hS5;refine U 8 fun K' hK=> ?_
    go_simp;refine V hK HS6.out ?_;clear hK K';clear hy hfz;refine wpAnyH_done (by kernel_rfl) ?_ _;go_wp2;exact⟨Fin.out,by simp[intOf];omega⟩
   ·obtain rfl:i=m:=by omega
    have hm':=HM.out;obtain⟨a',hk',q1,q2,q3,q4⟩:=Knl.copied H.out HBs.out (cur:=cur) (w3:=wr) (by rw[HHv.out,hm'];exact HR.out);have HE:=HF1.out wr a' hk' q4 HBr.out;rw[q1] at HE;have HE:=Lh HE;clear hk' q1 q2 q3 q4 hm' HR;go_wp2
    first|exact HE.out|(go_ret;exact HE.out)
end
end Kl
theorem Cp.St.pre.below{w w':World}{x:Cp.St}(h:x.pre w)(hb:Below w.heap.size w w'):x.pre w':= {h with rrow:=h.rrow.below hb,prow:=h.prow.below hb,crow:=h.crow.below hb}
theorem In.WdI.pre.below{w w':World}{d:In.WdI}(hd:d.pre w)(hb:Below w.heap.size w w'):d.pre w':=⟨⟨hd.h.p0,hd.h.p1,Ca.words_below hd.h.w hb,hd.h.bd⟩,hd.m.below hb,hd.x.below hb,hd.b.below hb⟩
theorem Quad.felt{w0 w w':World}{a:KAt}{K:Kn}{e:EAt}{E:En}{b:RkAt}{L:Kn}{f:RAt}{R:List Rp}{F:En}{G:Nat→Prop}(h:Quad w0 w a K e E b L f R F)(hm:Mod G w w')(g1:∀k,a.tag k≠0→¬G k)(g2:∀k,e.foot E.A k→¬G k)(g3:∀k,b.tag k≠0∨f.foot R k→¬G k)(g0:∀k,G k→w0.heap.size≤k):Quad w0 w' a K e E b L f R F:=
 ⟨{
   kn:=h.p.kn.keep hm g1
   en:=h.p.en.keep hm g2
   apart:=h.p.apart
   bel:=Mod.below h.p.bel hm h.p.bel.size fun i _ g=>g0 i g
   k0:=h.p.k0
   e0:=h.p.e0
   num:=h.p.num},⟨h.d.kn.keep hm fun k hk=>g3 k (.inl hk),h.d.en.keep hm fun k hk=>g3 k (.inr hk),h.d.apart⟩,h.ap,h.d0⟩
theorem Quad.envs{w0 w:World}{a:KAt}{K:Kn}{e:EAt}{E:En}{b:RkAt}{L:Kn}{f:RAt}{R:List Rp}{F:En}(h:Quad w0 w a K e E b L f R F):EPair w0 w e E f R F:=
 ⟨h.p.en,h.d.en,fun k hk=>(h.ap k (.inr hk)).2,h.p.bel,h.p.e0,fun k hk=>h.d0 k (.inr hk)⟩
theorem neEv(k n m:Int)(s:ByteArray)(w:World):(binOp .neq 66 (.agg #[.int .u8 k,.int .i64 n,.string s,.int .u32 m]) (.agg #[.int .u8 k,.int .i64 n,.string s,.int .u32 m])).run Tryz.prog w=.ok (.bool false) w:=by
 simp[go_sem,Tryz.underlying66]
theorem neSt(k n y:Int)(w:World):(binOp .neq 58 (.agg #[.int .u8 k,.int .u32 n,.int .i64 y]) (.agg #[.int .u8 k,.int .u32 n,.int .i64 y])).run Tryz.prog w=.ok (.bool false) w:=by
 simp[go_sem,Tryz.underlying58]
theorem En.Like.regs{E F:En}(h:En.Like E F)(c:Nat→Int):En.Like {E with r:=regs4 E.r c 4} {F with r:=regs4 F.r c 4}:= {h with r:=by rw[h.r]}
namespace L22
open In
structure Bsd(w0 w:World)(a:KAt)(K:Kn)(e:EAt)(E:En)(b:RkAt)(f:RAt)(R:List Rp)(F:En)(x:KAt)(X:Kn)(bc:Nat)(o:Obj):Prop where
 q:Quad w0 w a K e E b K f R F
 k:Knl w x X
 hx:∀k,a.tag k≠0→x.tag k=0∨x.tag k=5
 he:∀k,e.foot E.A k→x.tag k=0
 hd:∀k,b.tag k≠0∨f.foot R k→x.tag k=0
 h0:∀k,x.tag k≠0→w0.heap.size≤k
 bx:w.heap[bc]? =some o
 bt:x.tag bc=0
theorem Bsd.below{w0 w w':World}{a:KAt}{K:Kn}{e:EAt}{E:En}{b:RkAt}{f:RAt}{R:List Rp}{F:En}{x:KAt}{X:Kn}{bc:Nat}{o:Obj}(h:Bsd w0 w a K e E b f R F x X bc o)(hb:Below w.heap.size w w'):Bsd w0 w' a K e E b f R F x X bc o:=
 ⟨h.q.below hb,h.k.below hb,h.hx,h.he,h.hd,h.h0,(hb.block _ (lQ h.bx)).trans h.bx,h.bt⟩
theorem Bsd.step{w0 w w':World}{a:KAt}{K:Kn}{e:EAt}{E:En}{b:RkAt}{f:RAt}{R:List Rp}{F:En}{x:KAt}{X:Kn}{bc:Nat}{o:Obj}(h:Bsd w0 w a K e E b f R F x X bc o){x':KAt}{X':Kn}(s:KStep w w' x X x' X'):Bsd w0 w' a K e E b f R F x' X' bc o:=by
 obtain⟨q1,q2,q3,q4,q5⟩:=h.q.aside h.hx h.he h.hd h.h0 s;exact⟨q1,s.k,q2,q3,q4,q5,(s.mod.block _ (lQ h.bx) fun g=>g.1 h.bt).trans h.bx,(s.tag bc (lQ h.bx)).trans h.bt⟩
theorem Bsd.rel{w0 w w':World}{a:KAt}{K:Kn}{e:EAt}{E:En}{b:RkAt}{f:RAt}{R:List Rp}{F:En}{x:KAt}{X:Kn}{bc:Nat}{o:Obj}(h:Bsd w0 w a K e E b f R F x X bc o)(hm:Mod (fun k=>k=x.c.mb) w w'):Quad w0 w' a K e E b K f R F:=by
 have h2:x.tag x.c.mb=2:=h.k.t2 _ (.inr (.inl rfl));exact h.q.felt hm (fun k hk g=>by subst g;have:=h.hx _ hk;omega) (fun k hk g=>by subst g;have:=h.he _ hk;omega) (fun k hk g=>by subst g;have:=h.hd _ hk;omega) fun k g=>by subst g;exact h.h0 _ (by omega)
def plRel(w0:World)(l:List ClI)(eb fb rb:Nat)(v5 v11:Value)(wr:World):Prop:=
 ∃(i:Nat) (a:KAt) (K:Kn) (e:EAt) (E:En) (b:RkAt) (f:RAt) (R:List Rp) (F:En),i≤l.length∧v11=.int .i64 i∧v5=.pointer (some ⟨a.kb,0,none⟩)∧Quad w0 wr a K e E b K f R F∧En.Like E F∧e.eb=eb∧f.eb=fb∧b.kb=rb∧E.num=1∧Shp K i
theorem plays(w:World)(d:WdI)(hd:d.pre w)(la:Option Addr)(lcap:Nat)(l:List ClI)(hl:Cls w la l):
  Calls Tryz.prog 4 #[.agg d.cells,.slice la l.length lcap] w fun e w'=>e=.returned (.bool true)∧Below w.heap.size w w':=by
 have hb:Below w.heap.size w (w.alloc (.cells d.cells 37)):=Ba _;have hbx:WBox (w.alloc (.cells d.cells 37)) w.heap.size d:=⟨heap_alloc_new w _⟩;have HBx:=Lh hbx;have HB:=Lh hb;have HD:=Lh (hd.below hb);have HL:=Lh (hl.below hb);obtain⟨w1,hw1⟩:∃w1,w.alloc (.cells d.cells 37)=w1:=⟨_,rfl⟩;obtain⟨bx,hbxe⟩:∃bx,w.heap.size=bx:=⟨_,rfl⟩;rw[hw1] at HBx HB HD HL;rw[hbxe] at HBx;clear hb hbx hd hl;have HC:Hid (∀W,Below w1.heap.size w1 W→W.cell? ⟨bx,0,none⟩=some (.int .u32 d.h.p)∧W.cell? ⟨bx,1,none⟩=some (.slice d.h.a d.h.l.length d.h.cap)∧W.cell? ⟨bx,2,none⟩=some (.int .u32 d.m.m.pages)∧W.cell? ⟨bx,3,none⟩=some (.slice d.m.ea d.m.m.ext.length d.m.ecap)∧W.cell? ⟨bx,4,none⟩=some (.slice d.m.pa d.m.m.ports.length d.m.pcap)∧W.cell? ⟨bx,5,none⟩=some (.bool d.m.m.con)∧W.cell? ⟨bx,6,none⟩=some (.slice d.x.ra d.x.rn d.x.rcap)∧W.cell? ⟨bx,7,none⟩=some (.int .u32 d.x.pc)∧W.cell? ⟨bx,8,none⟩=some (.slice d.x.pa d.x.pn d.x.pcap)∧W.cell? ⟨bx,9,none⟩=some (.int .u16 d.x.at')∧W.cell? ⟨bx,10,none⟩=some (.slice d.x.ca d.x.cn d.x.ccap)∧W.cell? ⟨bx,11,none⟩=some (.int .u16 d.x.wh)∧W.cell? ⟨bx,12,none⟩=some (.string d.x.text)∧W.cell? ⟨bx,13,none⟩=some (.slice d.ba d.bl.length d.bcap)):=Lh fun W hW=>by
  have h:=HBx.out.below hW;exact⟨h.cell 0 _ rfl,h.cell 1 _ rfl,h.cell 2 _ rfl,h.cell 3 _ rfl,h.cell 4 _ rfl,h.cell 5 _ rfl,h.cell 6 _ rfl,h.cell 7 _ rfl,h.cell 8 _ rfl,h.cell 9 _ rfl,h.cell 10 _ rfl,h.cell 11 _ rfl,h.cell 12 _ rfl,h.cell 13 _ rfl⟩
 have HPost:Hid (∀V,Below w1.heap.size w1 V→Ending.returned (.bool true)=.returned (.bool true)∧Below w.heap.size w V):=Lh fun V hV=>⟨rfl,bQ HB.out hV⟩
 generalize hPQ:(fun(e:Ending) (w':World)=>e=.returned (.bool true)∧Below w.heap.size w w')=PQ;have HEnd:Hid (∀V,Below w1.heap.size w1 V→PQ (.returned (.bool true)) V):=Lh fun V hV=>by rw[←hPQ];exact⟨rfl,bQ HB.out hV⟩
 have HHv:Hid (∀V,Below w1.heap.size w1 V→Calls Tryz.prog 8 #[.agg #[.int .u32 d.h.p,.slice d.h.a d.h.l.length d.h.cap,.int .u32 d.m.m.pages,.slice d.m.ea d.m.m.ext.length d.m.ecap,.slice d.m.pa d.m.m.ports.length d.m.pcap,.bool d.m.m.con,.slice d.x.ra d.x.rn d.x.rcap,.int .u32 d.x.pc,.slice d.x.pa d.x.pn d.x.pcap,.int .u16 d.x.at',.slice d.x.ca d.x.cn d.x.ccap,.int .u16 d.x.wh,.string d.x.text,.slice d.ba d.bl.length d.bcap],.slice la l.length lcap] V fun e w'=>∃b,e=.returned (.bool b)∧(b=false→Light d l)∧Below V.heap.size V w'):=Lh fun V hV=>L22.heavy V d (HD.out.below hV) la lcap l (HL.out.below hV)
 have HBo:Hid (∀V,Below w1.heap.size w1 V→Light d l→Calls Tryz.prog 10 #[.agg #[.int .u32 d.h.p,.slice d.h.a d.h.l.length d.h.cap,.int .u32 d.m.m.pages,.slice d.m.ea d.m.m.ext.length d.m.ecap,.slice d.m.pa d.m.m.ports.length d.m.pcap,.bool d.m.m.con,.slice d.x.ra d.x.rn d.x.rcap,.int .u32 d.x.pc,.slice d.x.pa d.x.pn d.x.pcap,.int .u16 d.x.at',.slice d.x.ca d.x.cn d.x.ccap,.int .u16 d.x.wh,.string d.x.text,.slice d.ba d.bl.length d.bcap]] V (BothP V d)):=Lh fun V hV hL=>L22.both V d (HD.out.below hV) hL.bl hL.me hL.mp
 have HMa:Hid (∀V,Below w1.heap.size w1 V→Light d l→Calls Tryz.prog 11 #[.agg #[.slice d.x.ra d.x.rn d.x.rcap,.int .u32 d.x.pc,.slice d.x.pa d.x.pn d.x.pcap,.int .u16 d.x.at',.slice d.x.ca d.x.cn d.x.ccap,.int .u16 d.x.wh,.string d.x.text]] V (Cp.Made22 V d.x)):=Lh fun V hV hL=>Cp.made22 V d.x (HD.out.x.toOk hV hL.x)
 clear hPQ HPost;obtain⟨c0,c1,c2,c3,c4,c5,c6,c7,c8,c9,c10,c11,c12,c13⟩:=HC.out w1 Br;unfold WdI.cells HdI.v MnI.ev MnI.pv at hw1⊢;go_enter func4,ntmps4;go_wp2_with fail;try rw[hw1]
 try rw[hbxe]
 clear hw1 hbxe;refine(HHv.out _ Br).mono ?_;rintro e w2 ⟨hv,rfl,hlt,hb2⟩;have HB2:=Lh hb2;have HLt:=Lh hlt;obtain⟨c0,c1,c2,c3,c4,c5,c6,c7,c8,c9,c10,c11,c12,c13⟩:=HC.out w2 hb2;clear hb2 hlt HHv;cases hv with
 |true=>
  go_wp2_with fail;refine(Cp.alive22 _).mono ?_;rintro e w3 ⟨rfl,hb3⟩;have HE:=Lh (HEnd.out w3 (bQ HB2.out hb3));clear hb3 c0 c1 c2 c3 c4 c5 c6 c7 c8 c9 c10 c11 c12 c13;go_wp2
  first|exact HE.out|(go_ret;exact HE.out)
 |false=>
  have HLi:=Lh (HLt.out rfl);clear HLt;go_wp2_with fail;refine(HBo.out _ HB2.out HLi.out).mono ?_;rintro e w3 (⟨hok,a,b,K0,rfl,hpr,hfr⟩|⟨hok,rfl,hb3⟩)
  rotate_left
  ·have HB3:=Lh (bQ HB2.out hb3);obtain⟨c0,c1,c2,c3,c4,c5,c6,c7,c8,c9,c10,c11,c12,c13⟩:=HC.out w3 HB3.out;clear hb3;go_wp2_with fail;refine(HMa.out _ HB3.out HLi.out).mono ?_;rintro e w4 ⟨e4,E,f,R,F,rfl,hep,_,_⟩;have HB4:=Lh (bQ HB3.out hep.bel);clear hep c0 c1 c2 c3 c4 c5 c6 c7 c8 c9 c10 c11 c12 c13;go_wp2_with fail;refine(Cp.alive22 _).mono ?_;rintro e w5 ⟨rfl,hb5⟩;have HE:=Lh (HEnd.out w5 (bQ HB4.out hb5));clear hb5;go_wp2
   first|exact HE.out|(go_ret;exact HE.out)
  ·have HSh:=Lh (Shp.asked hfr HD.out.m.ok hok);obtain⟨K,hK⟩:∃K,asked d K0=K:=⟨_,rfl⟩;rw[hK] at hpr HSh;have HB3:=Lh (bQ HB2.out hpr.bel);have HPr:=Lh hpr;obtain⟨c0,c1,c2,c3,c4,c5,c6,c7,c8,c9,c10,c11,c12,c13⟩:=HC.out w3 HB3.out;clear hpr hfr hK hok;go_wp2_with fail;refine(HMa.out _ HB3.out HLi.out).mono ?_;rintro e w4 ⟨e4,E,f,R,F,rfl,hep,hlk,hlk1⟩;have hq:Quad w2 w4 a K e4 E b K f R F:=Quad.of HPr.out hep (by rw[hlk1.num];exact⟨Int.le_refl 1,show(1:Int)≤8 by decide⟩);obtain⟨eb,heb⟩:∃x,e4.eb=x:=⟨_,rfl⟩;obtain⟨fb,hfb⟩:∃x,f.eb=x:=⟨_,rfl⟩;obtain⟨rb,hrb⟩:∃x,b.kb=x:=⟨_,rfl⟩;have HR0:Hid (plRel w2 l eb fb rb (.pointer (some ⟨a.kb,0,none⟩)) (.int .i64 0) w4):=Lh ⟨0,a,K,e4,E,b,f,R,F,Nat.zero_le _,rfl,rfl,hq,hlk,heb,hfb,hrb,by rw[hlk1.num];rfl,HSh.out⟩;rw[heb,hrb,hfb];clear hq heb hfb hrb hep hlk hlk1 c0 c1 c2 c3 c4 c5 c6 c7 c8 c9 c10 c11 c12 c13 HBo HMa HPr HSh HB3;go_wp2;go_loopw [4,5,11,12,13,14,15,16,17,18,19] (fun _ v5 v11 _ _ _ _ _ _ _ _ wr=>plRel w2 l eb fb rb v5 v11 wr) (fun _ _ v11 _ _ _ _ _ _ _ _ _=>l.length - (intOf v11).toNat)
   case atStart=>exact HR0.out
   case round=>
    clear HR0;obtain⟨i,a,K,e,E,b,f,R,F,hi,rfl,rfl,hq,hlk,heb,hfb,hrb,hnm,hsh⟩:=hrel;have hq0:=hq
    by_cases hin:i<l.length
    ·have ii:(i:Int)<l.length:=by omega
     obtain⟨g,o,ea,hc⟩:=(HL.out.below (bQ HB2.out hq.p.bel)).cell i hin;have hok:=HL.out.ok i hin;have hfr:=HLi.out.f i hin;generalize l[i]=z at*;subst ea;obtain⟨z0,z1,z2,z3,z4,z5,z6⟩:wr.cell? ⟨g,o+i*7,none⟩=some (.int .i64 z.dn)∧wr.cell? ⟨g,o+i*7+1,none⟩=some (.int .u32 z.nm)∧wr.cell? ⟨g,o+i*7+2,none⟩=some (.int .u32 (z.c 0))∧wr.cell? ⟨g,o+i*7+3,none⟩=some (.int .u32 (z.c 1))∧wr.cell? ⟨g,o+i*7+4,none⟩=some (.int .u32 (z.c 2))∧wr.cell? ⟨g,o+i*7+5,none⟩=some (.int .u32 (z.c 3))∧wr.cell? ⟨g,o+i*7+6,none⟩=some (.string z.fr):=⟨hc 0 (by omega),hc 1 (by omega),hc 2 (by omega),hc 3 (by omega),hc 4 (by omega),hc 5 (by omega),hc 6 (by omega)⟩;clear hc;have hbc:=heap_alloc_new wr (.cells #[.int .i64 z.dn,.int .u32 z.nm,.int .u32 (z.c 0),.int .u32 (z.c 1),.int .u32 (z.c 2),.int .u32 (z.c 3),.string z.fr] 51);have hbl:Below wr.heap.size wr (wr.alloc (.cells #[.int .i64 z.dn,.int .u32 z.nm,.int .u32 (z.c 0),.int .u32 (z.c 1),.int .u32 (z.c 2),.int .u32 (z.c 3),.string z.fr] 51)):=Ba _;have hq:=hq.below hbl;have HN:Hid (a.tag wr.heap.size=0∧b.tag wr.heap.size=0∧¬e.foot E.A wr.heap.size∧¬f.foot R wr.heap.size):=Lh ⟨Decidable.byContradiction fun q=>Nat.lt_irrefl _ (hq0.p.kn.lt _ q),Decidable.byContradiction fun q=>Nat.lt_irrefl _ (hq0.d.kn.lt _ q),fun q=>Nat.lt_irrefl _ (hq0.p.en.lt _ q),fun q=>Nat.lt_irrefl _ (hq0.d.en.lt _ q)⟩;obtain⟨dn,hdn⟩:∃x,z.dn=x:=⟨_,rfl⟩;obtain⟨nm,hnmz⟩:∃x,z.nm=x:=⟨_,rfl⟩;obtain⟨t,ht⟩:∃x,z.fr=x:=⟨_,rfl⟩;obtain⟨zc,hzc⟩:∃x,z.c=x:=⟨_,rfl⟩;have hok1:=hok.n;have hok2:=hok.c;have hok3:=hok.f;rw[hdn] at z0 hbc hq;rw[hnmz] at z1 hbc hq hok1;rw[hzc] at z2 z3 z4 z5 hbc hq hok2;rw[ht] at z6 hbc hq hok3 hfr;clear hdn hnmz ht hzc hok hbl hq0;obtain⟨wx,hwx⟩:∃wx,wr.alloc (.cells #[.int .i64 dn,.int .u32 nm,.int .u32 (zc 0),.int .u32 (zc 1),.int .u32 (zc 2),.int .u32 (zc 3),.string t] 51)=wx:=⟨_,rfl⟩;obtain⟨bc,hbce⟩:∃x,wr.heap.size=x:=⟨_,rfl⟩;rw[hwx] at hbc hq;rw[hbce] at hbc HN;have HQ:=Lh hq;have HBc:=Lh hbc;have HLk:=Lh hlk;have HEb:=Lh heb;have HFb:=Lh hfb;have HRb:=Lh hrb;have HNm:=Lh hnm;have HSh:=Lh hsh;have HOk:=Lh (And.intro hok1 (And.intro hok2 (And.intro hok3 hfr)));have iw:IntKind.i64.wrap ((i:Int)+1)=(i:Int)+1:=by have:=HLi.out.ll;rw[IntKind.wrap_i64];omega
     have x0:wx.cell? ⟨bc,0,none⟩=some (.int .i64 dn):=by unfold World.cell?;rw[hbc];rfl
     have x1:wx.cell? ⟨bc,1,none⟩=some (.int .u32 nm):=by unfold World.cell?;rw[hbc];rfl
     have x2:wx.cell? ⟨bc,2,none⟩=some (.int .u32 (zc 0)):=by unfold World.cell?;rw[hbc];rfl
     have x3:wx.cell? ⟨bc,3,none⟩=some (.int .u32 (zc 1)):=by unfold World.cell?;rw[hbc];rfl
     have x4:wx.cell? ⟨bc,4,none⟩=some (.int .u32 (zc 2)):=by unfold World.cell?;rw[hbc];rfl
     have x5:wx.cell? ⟨bc,5,none⟩=some (.int .u32 (zc 3)):=by unfold World.cell?;rw[hbc];rfl
     have x6:wx.cell? ⟨bc,6,none⟩=some (.string t):=by unfold World.cell?;rw[hbc];rfl
     clear hq hbc hlk heb hfb hrb hnm hsh hok1 hok2 hok3 hfr
     by_cases hbs:dn=1∨dn=2
     ·have hb:=L22.beside HQ.out dn nm zc t HOk.out.2.2.1 (by have:=HSh.out.gone;have:=HLi.out.ll;omega);rw[HRb.out] at hb;unfold callC at hb;have HBe:=Lh hb;clear hb;have hd12:(dn == 1)=true∨(dn == 1)=false∧(dn == 2)=true:=by
       rcases hbs with rfl|rfl
       ·exact .inl rfl
       ·exact .inr ⟨rfl,rfl⟩
      clear hbs;rcases hd12 with hd1|⟨hd1,hd2⟩
      all_goals
       go_wp2_with fail;try rw[hwx]
       try rw[hbce]
       refine HBe.out.mono ?_;rintro r w5 ⟨rfl,a',b',hq5,hk5,hb5⟩;have fin:plRel w2 l eb fb rb (.pointer (some ⟨a.kb,0,none⟩)) (.int .i64 ((i:Int)+1)) w5:=⟨i+1,a',_,e,E,b',f,R,F,hin,by simp,by rw[hk5],hq5,HLk.out,HEb.out,HFb.out,hb5.trans HRb.out,HNm.out,HSh.out.bes dn t⟩;have Fin:=Lh fin;clear fin hq5 hk5 hb5 HBe HQ HSh HBc hwx hbce z0 z1 z2 z3 z4 z5 z6 x0 x1 x2 x3 x4 x5 x6;go_wp2;exact⟨Fin.out,by simp[intOf];omega⟩
     have hd1:(dn == 1)=false:=beq_eq_false_iff_ne.2 fun q=>hbs (.inl q)
     have hd2:(dn == 2)=false:=beq_eq_false_iff_ne.2 fun q=>hbs (.inr q)
     clear hbs
     by_cases hcp:dn=3
     ·have hd3:(dn == 3)=true:=beq_iff_eq.2 hcp;clear hcp;have HCy:=Lh (Kl.copy HQ.out.p.kn (by have:=HSh.out.sent;have:=HLi.out.ll;omega) (by have:=HQ.out.d.kn.bl.1;omega) (fun j q hj=>by have:=HQ.out.d.kn.bl.2 j q hj;omega));go_wp2_with fail;try rw[hwx]
      try rw[hbce]
      refine HCy.out.mono ?_;rintro r w5 ⟨a',rfl,hk5,ht5,hb5⟩;obtain⟨hq5,hko,hx5⟩:=HQ.out.swap hk5 ht5 hb5;have HB5:Hid (Bsd w2 w5 a' K e E b f R F a K bc (.cells (callC dn nm zc t) 51 (0,0))):=Lh ⟨hq5,hko,hx5,HQ.out.p.apart,fun k hk=>Decidable.byContradiction fun q=>by
       obtain⟨g1,g2⟩:=HQ.out.ap k (.inl q);exact hk.elim (fun z=>z g1) g2,HQ.out.p.k0,(hb5.block _ (lQ HBc.out)).trans HBc.out,HN.out.1⟩
      clear hk5 ht5 hb5 hq5 hko hx5 HQ HCy HBc x0 x1 x2 x3 x4 x5 x6 z0 z1 z2 z3 z4 z5 z6 hwx hbce HN;go_wp2_with fail;refine(Kl.caps HB5.out.q.p.kn).mono ?_;rintro r w6 ⟨rfl,rfl⟩;go_wp2_with fail;refine(Kl.nic HB5.out.q.p.kn).mono ?_;rintro r w6 ⟨rfl,rfl⟩;go_wp2_with fail;refine(Kl.tick HB5.out.k).mono ?_;rintro r w6 ⟨rfl,hs6⟩;have HB6:=Lh (HB5.out.step hs6);clear hs6 HB5;go_wp2_with fail;refine(Bk.block _ _ (by decide)).mono ?_;rintro r w7 ⟨rfl,hb7⟩;have HB7:=Lh (HB6.out.below hb7);clear hb7 HB6;go_wp2_with fail;refine(Kl.setBlock HB7.out.k 0 0 _ (Int.le_refl 0) (by decide) (Int.le_refl 0) (by decide) (by rw[Bk.text_size];decide)).mono ?_;rintro r w8 ⟨rfl,hs8⟩;have HB8:=Lh (HB7.out.step hs8);clear hs8 HB7;obtain⟨X,hX⟩:∃X,Kn.setBlock {K with now:=(K.now+1) % 4294967296} 0 0 (Bk.text {data:= #[111,116,104,101,114]})=X:=⟨_,rfl⟩;have hXg:X.N.gone=K.N.gone:=by rw[←hX,(set_rest _ _ _ _).2.2]
      rw[hX] at HB8;clear hX;have HXg:=Lh hXg;clear hXg;have hc6:∀W:World,W.heap[bc]? =some (.cells (callC dn nm zc t) 51 (0,0))→W.cell? ⟨bc,6,none⟩=some (.string t)∧True:=fun W hW=>⟨by unfold World.cell?;rw[hW];rfl,trivial⟩
      have HC6:=Lh hc6;clear hc6;go_wp2_with fail;refine B (fun W=>W.cell? ⟨bc,6,none⟩=some (.string t)∧True) (HC6.out _ (HB8.out.below Br.drew).bx) ?_;intro wd hwd hS;have HBd:Hid (Bsd w2 wd a' K e E b f R F a X bc (.cells (callC dn nm zc t) 51 (0,0))):=Lh (by subst hwd;exact HB8.out.below Br.drew);clear hwd HB8;refine T 0 hS ?_;refine T 2 hS ?_;refine T 3 hS ?_;refine U 1 fun K' hK=> ?_
      go_simp;go_at_call 12;refine(Kl.nic HBd.out.k).mono ?_;rintro r w9 ⟨rfl,rfl⟩;refine V hK hS ?_;clear hK K' hS;refine U 4 fun K' hK=> ?_
      go_simp;go_at_call 13;refine(Kl.arrive HBd.out.k t HOk.out.2.2.1 (by rw[HXg.out];have:=HSh.out.gone;have:=HLi.out.ll;omega)).mono ?_;rintro r w9 ⟨rfl,x9,hs9⟩;have HB9:=Lh (HBd.out.step hs9);have hx9:=hs9.same.1;clear hs9 HBd;refine V hK (HC6.out _ HB9.out.bx) ?_;clear hK K';refine wpAnyH_done (by kernel_rfl) ?_ _;rw[←hx9];clear hx9;go_wp2_with fail;refine(Kl.caps HB9.out.k).mono ?_;rintro r w10 ⟨rfl,rfl⟩;go_wp2_with fail;refine(Ca.release HB9.out.k.caps 1 ⟨by decide,by decide⟩).mono ?_;rintro r w10 ⟨⟨y,rfl⟩,hm10⟩;have fin:plRel w2 l eb fb rb (.pointer (some ⟨a'.kb,0,none⟩)) (.int .i64 ((i:Int)+1)) w10:=⟨i+1,a',K,e,E,b,f,R,F,hin,by simp,rfl,HB9.out.rel hm10,HLk.out,HEb.out,HFb.out,HRb.out,HNm.out,HSh.out.mono⟩;have Fin:=Lh fin;clear fin hm10 HB9 HC6 HSh;go_wp2;exact⟨Fin.out,by simp[intOf];omega⟩
     ·have hd3:(dn == 3)=false:=beq_eq_false_iff_ne.2 hcp;clear hcp;have hcS:∀W:World,W.heap[bc]? =some (.cells (callC dn nm zc t) 51 (0,0))→∀ {K1 K2 E1 F1 b1 R1 a1 e1} {f1:RAt},Quad w2 W a1 K1 e1 E1 b1 K2 f1 R1 F1→f1.eb=fb→f1.cb=f.cb→W.cell? ⟨fb,2,none⟩=some (.pointer (some ⟨f.cb,0,none⟩))∧W.cell? ⟨bc,0,none⟩=some (.int .i64 dn)∧W.cell? ⟨bc,1,none⟩=some (.int .u32 nm)∧W.cell? ⟨bc,2,none⟩=some (.int .u32 (zc 0))∧W.cell? ⟨bc,3,none⟩=some (.int .u32 (zc 1))∧W.cell? ⟨bc,4,none⟩=some (.int .u32 (zc 2))∧W.cell? ⟨bc,5,none⟩=some (.int .u32 (zc 3))∧W.cell? ⟨bc,6,none⟩=some (.string t)∧True:=fun W hW {_ _ _ _ _ _ _ _ _} k1 k2 k3=>by
       obtain⟨_,_,r2,_⟩:=Rv.cells k1.d.en;rw[k2,k3] at r2;refine⟨r2, ?_, ?_, ?_, ?_, ?_, ?_, ?_,trivial⟩<;>(unfold World.cell?;rw[hW];rfl)
      have HCS:=Lh hcS;clear hcS x0 x1 x2 x3 x4 x5 x6;have x0:wx.cell? ⟨bc,0,none⟩=some (.int .i64 dn):=by unfold World.cell?;rw[HBc.out];rfl
      go_wp2_with fail;try rw[hwx]
      try rw[hbce]
      clear x0 z0 z1 z2 z3 z4 z5 z6 hwx hbce;refine B (fun W=>W.cell? ⟨fb,2,none⟩=some (.pointer (some ⟨f.cb,0,none⟩))∧W.cell? ⟨bc,0,none⟩=some (.int .i64 dn)∧W.cell? ⟨bc,1,none⟩=some (.int .u32 nm)∧W.cell? ⟨bc,2,none⟩=some (.int .u32 (zc 0))∧W.cell? ⟨bc,3,none⟩=some (.int .u32 (zc 1))∧W.cell? ⟨bc,4,none⟩=some (.int .u32 (zc 2))∧W.cell? ⟨bc,5,none⟩=some (.int .u32 (zc 3))∧W.cell? ⟨bc,6,none⟩=some (.string t)∧True) (HCS.out wx.drew HBc.out (HQ.out.below Br.drew) HFb.out rfl) ?_;intro wd hwd hS;have HQd:Hid (Quad w2 wd a K e E b K f R F):=Lh (by subst hwd;exact HQ.out.below Br.drew);have HBd:Hid (wd.heap[bc]? =some (.cells (callC dn nm zc t) 51 (0,0))):=Lh (by subst hwd;exact HBc.out);clear hwd HQ HBc;refine T 0 hS ?_;refine T 1 hS ?_;refine T 2 hS ?_;refine T 3 hS ?_;refine T 4 hS ?_;refine T 5 hS ?_;clear hS;have hst:=L22.set HQd.out dn nm zc t HOk.out.2.1;rw[HEb.out] at hst;unfold callC at hst;have HSt:=Lh hst;clear hst;refine U 6 fun K' hK=> ?_
      go_simp;go_at_call 15;refine HSt.out.mono ?_;rintro r w5 ⟨rfl,hq5,hm5⟩;have hbc5:=(hm5.block _ (lQ HBd.out) (by
       rintro(g|g|g)
       ·exact HN.out.2.2.1 g
       ·exact HN.out.2.2.2 g
       ·have:=lQ HBd.out;omega)).trans HBd.out
      have hS5:=HCS.out w5 hbc5 hq5 HFb.out rfl;have HLk5:=Lh (HLk.out.regs zc);have hnm5:({E with r:=regs4 E.r zc 4}:En).num=1:=HNm.out;have HQ5:=Lh hq5;have HBc5:=Lh hbc5;have hNx:a.tag bc=0∧b.tag bc=0∧¬e.foot ({E with r:=regs4 E.r zc 4}:En).A bc∧¬f.foot R bc:=HN.out;clear hm5 hbc5 hq5 HQd HBd HN HLk HSt HNm HCS;refine V hK hS5 ?_;clear hK K';refine wpAnyH_done (by kernel_rfl) ?_ _;obtain⟨_,_,x1,_⟩:=hS5;generalize ({E with r:=regs4 E.r zc 4}:En)=E5 at*;generalize ({F with r:=regs4 F.r zc 4}:En)=F5 at*;have HN5:=Lh hnm5;have HNx:=Lh hNx;clear hnm5 hNx;obtain⟨_,_,_,r3,_⟩:=Rv.cells HQ5.out.d.en;rw[HFb.out] at r3
      by_cases hk2:E5.kind=2
      ·have hf2:F5.kind=2:=HLk5.out.kind.symm.trans hk2;rw[hf2] at r3;have hdo:=Kl.does HQ5.out.p.ke HQ5.out.p.num hk2 (by have:=HSh.out.sent;have:=HLi.out.ll;omega) nm HOk.out.1.1 HOk.out.1.2;rw[HEb.out] at hdo;have HDo:=Lh hdo;clear hdo hk2 hf2;go_wp2_with fail;refine HDo.out.mono ?_;rintro r w6 ⟨blk,a6,e6,rfl,hj⟩;have hq6:=HQ5.out.prog hj (doE_num K E5 blk nm);have hka:=hj.same.1.1;have hea:=hj.same.2.1;obtain⟨ev,hev⟩:∃ev,Kl.evt K E5 blk nm=ev:=⟨_,rfl⟩;rw[hev];have HEv:=Lh hev;obtain⟨p0,p1,p2,p3,p4⟩:=ev;simp only[Kl.evC];have hNb:a.tag bc=0∧b.tag bc=0∧¬e.foot E5.A bc∧¬f.foot R bc:=HNx.out;have hx6:=(hj.mod.block _ (lQ HBc5.out) (by
        rintro(g|g)
        ·exact g.1 hNb.1
        ·exact hNb.2.2.1 g)).trans HBc5.out
       clear hj hev HDo hNb;have hb7:Below w6.heap.size w6 (w6.alloc (.cells #[.int .u8 p0,.int .i64 p1,.string p2,.int .u32 p3] 66)):=Ba _;have hn7:=heap_alloc_new w6 (.cells #[.int .u8 p0,.int .i64 p1,.string p2,.int .u32 p3] 66);have hq7:=hq6.below hb7;have ht7:b.tag w6.heap.size=0∧¬f.foot R w6.heap.size:=⟨Decidable.byContradiction fun q=>Nat.lt_irrefl _ (hq6.d.kn.lt _ q),fun q=>Nat.lt_irrefl _ (hq6.d.en.lt _ q)⟩;have hx7:=(hb7.block _ (lQ hx6)).trans hx6;obtain⟨w7,hw7⟩:∃w7,w6.alloc (.cells #[.int .u8 p0,.int .i64 p1,.string p2,.int .u32 p3] 66)=w7:=⟨_,rfl⟩;obtain⟨b15,hb15⟩:∃x,w6.heap.size=x:=⟨_,rfl⟩;rw[hw7] at hq7 hn7 hx7;rw[hb15] at hn7 ht7;have HQ7:=Lh hq7;have HN7:=Lh hn7;have HT7:=Lh ht7;have HKA:=Lh (And.intro hka hea);have hfn:F5.num=1:=HLk5.out.num.symm.trans HN5.out;have hdo:=Rk.does HQ7.out.d nm HOk.out.1.1 (fun id n i0 n0 hb=>Option.isSome_iff_exists.1 (HSh.out.fit id n i0 n0 (by rw[hfn] at hb;exact hb))) (by have:=HSh.out.sent;have:=HLi.out.ll;omega);rw[HRb.out,HFb.out] at hdo;have HDo:=Lh hdo;have x1:w7.cell? ⟨bc,1,none⟩=some (.int .u32 nm):=by unfold World.cell?;rw[hx7];rfl
       clear hq7 hn7 ht7 hka hea hdo hfn hq6 hb7 hx6 hx7 HNx r3;go_wp2_with fail;try rw[hw7]
       try rw[hb15]
       clear hw7 hb15 x1;refine HDo.out.mono ?_;rintro r w8 ⟨blk',b8,f8,R8,rfl,hs8⟩;rw[←Al.evt_like K HLk5.out blk blk' nm,HEv.out];simp only[Kl.evC];have hq8:=HQ7.out.doc hs8;have hn8:=(hs8.mod.block _ (lQ HN7.out) (by
        rintro(g|g)
        ·exact g.1 HT7.out.1
        ·exact HT7.out.2 g)).trans HN7.out
       have hl8:=Co.like_doE K HLk5.out blk blk' nm;have hkk:=Co.like_doK K HLk5.out blk blk' nm;rw[←hkk] at hq8;have hb8:b8.kb=rb:=hs8.same.1.1.trans HRb.out;have hf8:f8.eb=fb:=hs8.same.2.trans HFb.out;have hd8:(Co.doE K E5 blk nm).num=1:=(doE_num K E5 blk nm).trans HN5.out;have hsh8:Shp (Co.doK K E5 blk nm) (i+1):=HSh.out.doK blk nm;clear hs8 hkk HQ7 HN7 HT7 HLk5 HN5 HSh HDo HEv;generalize Co.doE K E5 blk nm=E8 at*;generalize Co.doE K F5 blk' nm=F8 at*;generalize Co.doK K E5 blk nm=K8 at*;have hb9:Below w8.heap.size w8 (w8.alloc (.cells #[.int .u8 p0,.int .i64 p1,.string p2,.int .u32 p3] 66)):=Ba _;have hn9:=heap_alloc_new w8 (.cells #[.int .u8 p0,.int .i64 p1,.string p2,.int .u32 p3] 66);have hq9:=hq8.below hb9;have hn8:=(hb9.block _ (lQ hn8)).trans hn8;obtain⟨w9,hw9⟩:∃w9,w8.alloc (.cells #[.int .u8 p0,.int .i64 p1,.string p2,.int .u32 p3] 66)=w9:=⟨_,rfl⟩;obtain⟨b18,hb18⟩:∃x,w8.heap.size=x:=⟨_,rfl⟩;rw[hw9] at hq9 hn9 hn8;rw[hb18] at hn9;have hS0:∀W,Below w9.heap.size w9 W→W.cell? ⟨b15,0,none⟩=some (.int .u8 p0)∧W.cell? ⟨b15,1,none⟩=some (.int .i64 p1)∧W.cell? ⟨b15,2,none⟩=some (.string p2)∧W.cell? ⟨b15,3,none⟩=some (.int .u32 p3)∧W.cell? ⟨b18,0,none⟩=some (.int .u8 p0)∧W.cell? ⟨b18,1,none⟩=some (.int .i64 p1)∧W.cell? ⟨b18,2,none⟩=some (.string p2)∧W.cell? ⟨b18,3,none⟩=some (.int .u32 p3)∧W.cell? ⟨fb,3,none⟩=some (.int .u8 E8.kind)∧W.cell? ⟨fb,4,none⟩=some (.int .u32 E8.code)∧W.cell? ⟨fb,5,none⟩=some (.int .i64 E8.why)∧True:=fun W hW=>by
        have g1:=(hW.block _ (lQ hn8)).trans hn8;have g2:=(hW.block _ (lQ hn9)).trans hn9;obtain⟨_,_,_,r3,r4,r5,_⟩:=Rv.cells (hq9.below hW).d.en;rw[hf8] at r3 r4 r5;rw[hl8.kind,hl8.code,hl8.why];refine⟨?_, ?_, ?_, ?_, ?_, ?_, ?_, ?_,r3,r4,r5,trivial⟩
        ·unfold World.cell?;rw[g1];rfl
        ·unfold World.cell?;rw[g1];rfl
        ·unfold World.cell?;rw[g1];rfl
        ·unfold World.cell?;rw[g1];rfl
        ·unfold World.cell?;rw[g2];rfl
        ·unfold World.cell?;rw[g2];rfl
        ·unfold World.cell?;rw[g2];rfl
        ·unfold World.cell?;rw[g2];rfl
       have HS:=Lh hS0;have hfin:∀W,Below w9.heap.size w9 W→plRel w2 l eb fb rb (.pointer (some ⟨a.kb,0,none⟩)) (.int .i64 ((i:Int)+1)) W:=fun W hW=>⟨i+1,a6,K8,e6,E8,b8,f8,R8,F8,hin,by simp,by rw[HKA.out.1],hq9.below hW,hl8,HKA.out.2.trans HEb.out,hf8,hb8,hd8,hsh8⟩
       have HFin:=Lh hfin;have HSta:=Lh fun V (hV:Below w9.heap.size w9 V)=>(by have:=Ev.state (hq9.below hV).p.en;rw[HKA.out.2,HEb.out] at this;exact this:Calls Tryz.prog 14 #[.pointer (some ⟨eb,0,none⟩)] V _)
       have HArg:=Lh fun V (hV:Below w9.heap.size w9 V) (n:Int) (n0: -9223372036854775808≤n) (n1:n≤9223372036854775807)=>(by have:=Ev.arg (hq9.below hV).p.en n n0 n1;rw[HKA.out.2,HEb.out] at this;exact this:Calls Tryz.prog 22 #[.pointer (some ⟨eb,0,none⟩),.int .i64 n] V _)
       have HRar:=Lh fun V (hV:Below w9.heap.size w9 V) (n:Int) (n0: -9223372036854775808≤n) (n1:n≤9223372036854775807)=>(by have:=Rv.arg (hq9.below hV).d.en n n0 n1;rw[hf8,←hl8.arg] at this;exact this:Calls Tryz.prog 31 #[.pointer (some ⟨fb,0,none⟩),.int .i64 n] V _)
       have hne:=neEv p0 p1 p3 p2;have hns:=neSt E8.kind E8.code E8.why;clear hq8 hn8 hl8 hb8 hf8 hd8 hsh8 hb9 hn9 hq9 hS0 hfin HKA;go_wp2_with fail;try rw[hw9]
       try rw[hb18]
       clear hw9 hb18;refine B (fun W=>W.cell? ⟨b15,0,none⟩=some (.int .u8 p0)∧W.cell? ⟨b15,1,none⟩=some (.int .i64 p1)∧W.cell? ⟨b15,2,none⟩=some (.string p2)∧W.cell? ⟨b15,3,none⟩=some (.int .u32 p3)∧W.cell? ⟨b18,0,none⟩=some (.int .u8 p0)∧W.cell? ⟨b18,1,none⟩=some (.int .i64 p1)∧W.cell? ⟨b18,2,none⟩=some (.string p2)∧W.cell? ⟨b18,3,none⟩=some (.int .u32 p3)∧W.cell? ⟨fb,3,none⟩=some (.int .u8 E8.kind)∧W.cell? ⟨fb,4,none⟩=some (.int .u32 E8.code)∧W.cell? ⟨fb,5,none⟩=some (.int .i64 E8.why)∧True) (HS.out _ Br.drew) ?_;intro wd hwd hS;have HBd:Hid (Below w9.heap.size w9 wd):=Lh (by subst hwd;exact Br.drew);clear hwd;refine T 0 hS ?_;refine T 1 hS ?_;refine T 2 hS ?_;refine T 3 hS ?_;refine T 4 hS ?_;refine T 5 hS ?_;refine T 6 hS ?_;refine T 7 hS ?_;refine T 8 hS ?_;refine T 9 hS ?_;refine T 10 hS ?_;refine T 11 hS ?_;refine T 12 hS ?_;refine T 13 hS ?_;refine T 15 hS ?_;refine T 16 hS ?_;refine T 17 hS ?_;refine T 18 hS ?_;refine U 14 fun K' hK=> ?_
       go_simp;go_at_call 14;refine(HSta.out _ HBd.out).mono ?_;rintro r w10 ⟨rfl,hb10⟩;have HB10:=Lh (bQ HBd.out hb10);have hS1:=HS.out _ HB10.out;clear hb10 HSta HBd;refine V hK hS1 ?_;clear hK K' hS;have hS:=hS1;clear hS1;refine T 19 hS ?_;refine T 20 hS ?_;refine T 21 hS ?_;refine T 22 hS ?_;refine T 24 hS ?_;refine U 23 fun K' hK=> ?_
       go_simp;go_at_call 22;refine(HArg.out _ HB10.out 1 (by decide) (by decide)).mono ?_;rintro r w11 ⟨rfl,rfl⟩;refine V hK hS ?_;clear hK K';refine U 25 fun K' hK=> ?_
       go_simp;go_at_call 31;refine(HRar.out _ HB10.out 1 (by decide) (by decide)).mono ?_;rintro r w11 ⟨rfl,rfl⟩;refine V hK hS ?_;clear hK K';refine T 26 hS ?_;refine T 27 hS ?_;refine T 28 hS ?_;refine T 29 hS ?_;refine T 31 hS ?_;refine U 30 fun K' hK=> ?_
       go_simp;go_at_call 22;refine(HArg.out _ HB10.out 2 (by decide) (by decide)).mono ?_;rintro r w11 ⟨rfl,rfl⟩;refine V hK hS ?_;clear hK K';refine U 32 fun K' hK=> ?_
       go_simp;go_at_call 31;refine(HRar.out _ HB10.out 2 (by decide) (by decide)).mono ?_;rintro r w11 ⟨rfl,rfl⟩;refine V hK hS ?_;clear hK K';refine T 33 hS ?_;refine T 34 hS ?_;clear hS;refine wpAnyH_done (by kernel_rfl) ?_ _;have HFi:=Lh (HFin.out _ HB10.out);clear HFin HArg HRar HS;go_wp2;exact⟨HFi.out,by simp[intOf];omega⟩
      ·have hkn:(F5.kind == 2)=false:=beq_eq_false_iff_ne.2 fun q=>hk2 (HLk5.out.kind.trans q)
       have hdo:=Kl.do_over HQ5.out.p.ke hk2 nm;rw[HEb.out] at hdo;have HDo:=Lh hdo;have hne:=neEv 0 0 0 ByteArray.empty;generalize F5.kind=kd at*;clear hdo hk2;go_wp2_with fail;refine HDo.out.mono ?_;rintro r w6 ⟨rfl,hb6⟩;have HQ6:=Lh (HQ5.out.below hb6);have fin:plRel w2 l eb fb rb (.pointer (some ⟨a.kb,0,none⟩)) (.int .i64 ((i:Int)+1)) (w6.alloc (.cells #[.int .u8 0,.int .i64 0,.string ByteArray.empty,.int .u32 0] 66)):=⟨i+1,a,K,e,E5,b,f,R,F5,hin,by simp,rfl,HQ6.out.below (Ba _),HLk5.out,HEb.out,HFb.out,HRb.out,HN5.out,HSh.out.mono⟩;have Fin:=Lh fin;clear fin hb6 HDo r3 x1 HQ6 HQ5;go_wp2;exact⟨Fin.out,by simp[intOf];omega⟩
    ·obtain rfl:i=l.length:=by omega
     have ii:¬(l.length:Int)<l.length:=by omega
     have hsm:=L22.same hq.p.kn hq.d.kn (by have:=hsh.sent;have:=HLi.out.ll;omega) hsh.hp;rw[hrb] at hsm;have HSm:=Lh hsm;have HSe:=Lh fun V (hV:Below wr.heap.size wr V)=>(by have:=Cp.sameE (hq.below hV).envs hlk;rw[heb,hfb] at this;exact this:Calls Tryz.prog 33 #[.pointer (some ⟨eb,0,none⟩),.pointer (some ⟨fb,0,none⟩)] V _)
     have HBr:=Lh (bQ HB2.out hq.p.bel);clear hq hlk heb hfb hrb hnm hsh hsm hq0;go_wp2_with fail;refine HSm.out.mono ?_;rintro r w5 ⟨rfl,hb5⟩;have HB5:=Lh hb5;clear hb5 HSm;go_wp2_with fail;refine(HSe.out _ HB5.out).mono ?_;rintro r w6 ⟨rfl,hb6⟩;have HB6:=Lh (bQ HB5.out hb6);clear hb6 HSe;go_wp2_with fail;refine(Cp.alive22 _).mono ?_;rintro r w7 ⟨rfl,hb7⟩;have HE:=Lh (HEnd.out w7 (bQ HBr.out (bQ HB6.out hb7)));clear hb7;go_wp2
     first|exact HE.out|(go_ret;exact HE.out)
end L22
end Go.Proofs.YtjjdjpdmgaipeaaGreat
