/- KeCp, With in one text. -/
import Derived.Test.YtjjdjpdmgaipeaaGreatCwRegU
import Derived.Test.YtjjdjpdmgaipeaaGreatCwCaCp
import Derived.Laws.MakeOwn
import Derived.Test.YtjjdjpdmgaipeaaGreatCwBoth22
import Derived.Test.YtjjdjpdmgaipeaaGreatCwWi22E
import Derived.Test.YtjjdjpdmgaipeaaGreatCwZa
set_option linter.unusedVariables false
set_option linter.unusedSimpArgs false
set_option maxRecDepth 100000
set_option maxHeartbeats 16000000
open Go.Proofs.Tryz
namespace Go.Proofs.YtjjdjpdmgaipeaaGreat
open Go.RowKit
namespace Kl
theorem info_rows:(Tryz.prog.info? 35).map (fun i=>(i.zero,i.size,i.bytes))=some (some (.slice none 0 0),1,24):=by kernel_rfl
def cpRel(w4:World)(a:KAt)(K:Kn)(ob kb:Nat)(hd:Array Value)(vi:Value)(wr:World):Prop:=∃(i:Nat) (cur:Array Value),i≤K.B.length∧vi=.int .i64 i∧CpR w4 a K ob kb hd i cur wr
section
variable {w:World} {a:KAt} {K:Kn}
theorem copy(h:Knl w a K)(hs:K.N.sent.length≤2000000)(hB:K.B.length≤2000000)(hBl:∀(i:Nat) (l:List ByteArray),K.B[i]? =some l→l.length≤2000000):Calls Tryz.prog 16 #[.pointer (some ⟨a.kb,0,none⟩)] w (KCopyPost w a K):=by
 have hp0:0≤K.hp:=by
  have h1:=h.caps.fit;have h2:=(Gp.sumL_bd (f:=fun _=>false) h.caps.ok).1;rw[Gp.sumL_none fun _=>rfl] at h2;omega
 obtain⟨mb,V0,sv0,hnc,hnf⟩:=h.nic;have HCa:=Lh fun V (hV:Below w.heap.size w V)=>Ca.copy (h.caps.below hV) hp0 (fun k hk=>by
  have:=h.lt k (by rw[h.t5 k (.inr (.inr hk))];decide);have:=hV.size;omega)
 have HNi:=Lh fun V (hV:Below w.heap.size w V)=>Ni.copy (hnc.keep (G:=fun _=>False) (Mod.of_below hV _) fun _ _ g=>g) hs
 have H:=Lh h;have HF1:Hid (∀V a',Knl V a' K→(∀k,a'.tag k≠0→w.heap.size≤k∨a.tag k=5∧a'.tag k=5)→Below w.heap.size w V→KCopyPost w a K (.returned (.pointer (some ⟨a'.kb,0,none⟩))) V):=Lh fun V a' k1 k2 k3=>⟨a',rfl,k1,k2,k3⟩
 obtain⟨ho,hc,hhv⟩:=(show SlV w _ 1 a.hv _ _ from h.hx).form;obtain⟨bo,bc,hbv⟩:=h.outer.form;rw[h.len] at hbv;obtain⟨c0,c1,c2,c3,c4,c5⟩:=h.cells;rw[hhv] at c1;rw[hbv] at c4;have HHv:=Lh hhv;have HBv:=Lh hbv;have HBl:=Lh hBl;have HS:Hid (∀W,Below w.heap.size w W→W.cell? ⟨a.kb,0,none⟩=some (.int .u32 K.hp)∧W.cell? ⟨a.kb,1,none⟩=some (.slice ho K.hx.length hc)∧W.cell? ⟨a.kb,2,none⟩=some (.pointer (some ⟨a.c.cb,0,none⟩))∧W.cell? ⟨a.kb,3,none⟩=some (.pointer (some ⟨a.nb,0,none⟩))∧W.cell? ⟨a.kb,4,none⟩=some (.slice bo K.B.length bc)∧W.cell? ⟨a.kb,5,none⟩=some (.int .u32 K.now)∧True):=Lh fun W hW=>⟨cell_below hW c0,cell_below hW c1,cell_below hW c2,cell_below hW c3,cell_below hW c4,cell_below hW c5,trivial⟩
 obtain⟨i0,hi0,hz0,hz1,hz2⟩:=info_parts info_rows;have HMk:Hid (∀W:World,(Instr.makeSlice 123 (.int .i64 (K.B.length:Int)) (.int .i64 (K.B.length:Int))).run Tryz.prog W=.ok (.slice (some ⟨W.heap.size,0,none⟩) K.B.length K.B.length) (W.alloc (.cells (madeCells (Value.slice none 0 0).cells (K.B.length*1)) 35))):=Lh fun W=>by
  have hms:=run_makeSlice (P:=Tryz.prog) W 123 35 i0 (.slice none 0 0) Tryz.underlying123 hi0 hz0 .i64 .i64 (K.B.length:Int) (K.B.length:Int) (by omega) (by omega) (by rw[hz1];omega) (by rw[hz2];omega) (by omega);rw[Int.toNat_natCast,hz1] at hms;exact hms
 obtain⟨m,hm⟩:∃m,K.B.length=m:=⟨_,rfl⟩;have HM:=Lh hm;have hS:=HS.out w.drew (Below.refl _ _).drew;generalize KCopyPost w a K=PQ at*;rw[hm] at HMk hB hbv;simp only[hm] at HS hS;clear h hnc hnf hs hBl hhv hbv hi0 hz0 hz1 hz2 c0 c1 c2 c3 c4 c5 hm;go_enter func16,ntmps16;go_wp2_with fail;refine B (fun W=>W.cell? ⟨a.kb,0,none⟩=some (.int .u32 K.hp)∧W.cell? ⟨a.kb,1,none⟩=some (.slice ho K.hx.length hc)∧W.cell? ⟨a.kb,2,none⟩=some (.pointer (some ⟨a.c.cb,0,none⟩))∧W.cell? ⟨a.kb,3,none⟩=some (.pointer (some ⟨a.nb,0,none⟩))∧W.cell? ⟨a.kb,4,none⟩=some (.slice bo m bc)∧W.cell? ⟨a.kb,5,none⟩=some (.int .u32 K.now)∧True) hS ?_;intro wd hwd hS;have HBd:Hid (Below w.heap.size w wd):=Lh (by subst hwd;exact(Below.refl _ _).drew);have HZd:Hid (wd.heap.size=w.heap.size):=Lh (by subst hwd;rfl);clear hwd;refine T 0 hS ?_;refine T 1 hS ?_;refine T 2 hS ?_;refine T 3 hS ?_;refine T 4 hS ?_;refine T 5 hS ?_;refine T 6 hS ?_;refine T 7 hS ?_;refine T 9 hS ?_;refine T 10 hS ?_;refine T 11 hS ?_;refine T 12 hS ?_;refine T 14 hS ?_;refine T 15 hS ?_;refine T 16 hS ?_;refine T 17 hS ?_;refine T 18 hS ?_;refine T 20 hS ?_;refine T 21 hS ?_;refine T 22 hS ?_;refine T 23 hS ?_;obtain⟨arr,harr⟩:∃arr,madeCells (Value.slice none 0 0).cells (m*1)=arr:=⟨_,rfl⟩;have HArr:Hid (arr.size=m):=Lh (by rw[←harr,size_madeCells];omega);rw[harr] at HMk;clear harr hS;refine U2 8 19 (fun K' hK=> ?b1) (fun K' hK=> ?b2)
 case' b1=>
  go_simp;go_at_call 81;refine(HCa.out wd HBd.out).mono ?_;rintro e w1 ⟨c,rfl,hcc⟩;have HCc:=Lh hcc;have HB1:=Lh (below_th HBd.out hcc.bel);have hS1:=HS.out w1 HB1.out;clear hcc;refine V hK hS1 ?_;clear hK K' hS1;refine U2 13 19 (fun K' hK=> ?b3) (fun K' hK=> ?b4)
 case' b3=>
  go_simp;go_at_call 82;refine(HNi.out w1 HB1.out).mono ?_;rintro e w2 ⟨nb,mb2,V2,sv2,rfl,hn2,hf2,hb2⟩;have HN2:=Lh (And.intro hn2 (And.intro hf2 hb2));have HB2:=Lh (below_th HB1.out hb2);have hS2:=HS.out w2 HB2.out;clear hn2 hf2 hb2;refine V hK hS2 ?_;clear hK K' hS2;refine U 19 fun K' hK=> ?_
  have hmk:=HMk.out w2;have HSa:=Lh (HS.out _ (below_th HB2.out ((Below.refl _ _).alloc (Nat.le_refl _) (.cells arr 35))));go_simp;refine V hK HSa.out ?_;clear hK K' hmk;refine T 24 HSa.out ?_;have hbb:Below w.heap.size w ((w2.alloc (.cells arr 35)).alloc (.cells #[.int .u32 K.hp,.slice ho K.hx.length hc,.pointer (some ⟨c.cb,0,none⟩),.pointer (some ⟨nb,0,none⟩),.slice (some ⟨w2.heap.size,0,none⟩) m m,.int .u32 K.now] 155)):=below_th (below_th HB2.out ((Below.refl _ _).alloc (Nat.le_refl _) (.cells arr 35))) ((Below.refl _ _).alloc (Nat.le_refl _) _);have HSb:=Lh (HS.out _ hbb);refine U 25 fun K' hK=> ?_
  go_simp;refine V hK HSb.out ?_;clear hK K';refine T 26 HSb.out ?_;refine wpAnyH_done (by kernel_rfl) ?_ _;have hbs:=CpB.parts (w4:=(w2.alloc (.cells arr 35)).alloc (.cells #[.int .u32 K.hp,.slice ho K.hx.length hc,.pointer (some ⟨c.cb,0,none⟩),.pointer (some ⟨nb,0,none⟩),.slice (some ⟨w2.heap.size,0,none⟩) m m,.int .u32 K.now] 155)) (ob:=w2.heap.size) (kb:=w2.heap.size+1) H.out HBd.out HCc.out (Below.refl _ _) HN2.out.1 HN2.out.2.1 HN2.out.2.2 (below_th ((Below.refl _ _).alloc (Nat.le_refl _) (.cells arr 35)) ((Below.refl _ _).alloc (Nat.le_refl _) _)) (by have:=HB2.out.size;simp;omega) (by simp) (by omega);have hob:((w2.alloc (.cells arr 35)).alloc (.cells #[.int .u32 K.hp,.slice ho K.hx.length hc,.pointer (some ⟨c.cb,0,none⟩),.pointer (some ⟨nb,0,none⟩),.slice (some ⟨w2.heap.size,0,none⟩) m m,.int .u32 K.now] 155)).heap[w2.heap.size]? =some (.cells arr 35 (0,0)):=(Below.heap_alloc _ _ _ (by simp)).trans (heap_alloc_new w2 _);have hkb:((w2.alloc (.cells arr 35)).alloc (.cells #[.int .u32 K.hp,.slice ho K.hx.length hc,.pointer (some ⟨c.cb,0,none⟩),.pointer (some ⟨nb,0,none⟩),.slice (some ⟨w2.heap.size,0,none⟩) m m,.int .u32 K.now] 155)).heap[w2.heap.size+1]? =some (.cells #[.int .u32 K.hp,.slice ho K.hx.length hc,.pointer (some ⟨c.cb,0,none⟩),.pointer (some ⟨nb,0,none⟩),.slice (some ⟨w2.heap.size,0,none⟩) m m,.int .u32 K.now] 155 (0,0)):=by have:=heap_alloc_new (w2.alloc (.cells arr 35)) (.cells #[.int .u32 K.hp,.slice ho K.hx.length hc,.pointer (some ⟨c.cb,0,none⟩),.pointer (some ⟨nb,0,none⟩),.slice (some ⟨w2.heap.size,0,none⟩) m m,.int .u32 K.now] 155);simpa using this
  clear HSb hbb HMk HSa;obtain⟨kb,ekb⟩:∃x,w2.heap.size+1=x:=⟨_,rfl⟩;obtain⟨ob,eob⟩:∃x,w2.heap.size=x:=⟨_,rfl⟩;rw[ekb] at hbs hkb⊢;rw[eob] at hbs hob hkb⊢;generalize (w2.alloc (.cells arr 35)).alloc (.cells #[.int .u32 K.hp,.slice ho K.hx.length hc,.pointer (some ⟨c.cb,0,none⟩),.pointer (some ⟨nb,0,none⟩),.slice (some ⟨ob,0,none⟩) m m,.int .u32 K.now] 155)=w4 at*;have HBs:=Lh hbs;have HOb:=Lh hob;have HKb:=Lh hkb;clear hbs hob hkb ekb eob HN2 HCc HB1 HB2 HBd HZd
 case' b4=>
  have hmk:=HMk.out w1;have HSa:=Lh (HS.out _ (below_th HB1.out ((Below.refl _ _).alloc (Nat.le_refl _) (.cells arr 35))));go_simp;refine V hK HSa.out ?_;clear hK K' hmk;have HBa:=Lh (below_th HB1.out ((Below.refl _ _).alloc (Nat.le_refl _) (.cells arr 35)));refine U 13 fun K' hK=> ?_
  go_simp;go_at_call 82;refine(HNi.out (w1.alloc (.cells arr 35)) HBa.out).mono ?_;rintro e w2 ⟨nb,mb2,V2,sv2,rfl,hn2,hf2,hb2⟩;have HN2:=Lh (And.intro hn2 (And.intro hf2 hb2));have HB2:=Lh (below_th HBa.out hb2);have hS2:=HS.out w2 HB2.out;clear hn2 hf2 hb2;refine V hK hS2 ?_;clear hK K' hS2;refine T 24 (HS.out w2 HB2.out) ?_;have hbb:Below w.heap.size w ((w2).alloc (.cells #[.int .u32 K.hp,.slice ho K.hx.length hc,.pointer (some ⟨c.cb,0,none⟩),.pointer (some ⟨nb,0,none⟩),.slice (some ⟨w1.heap.size,0,none⟩) m m,.int .u32 K.now] 155)):=below_th HB2.out ((Below.refl _ _).alloc (Nat.le_refl _) _);have HSb:=Lh (HS.out _ hbb);refine U 25 fun K' hK=> ?_
  go_simp;refine V hK HSb.out ?_;clear hK K';refine T 26 HSb.out ?_;refine wpAnyH_done (by kernel_rfl) ?_ _;have hbs:=CpB.parts (w4:=w2.alloc (.cells #[.int .u32 K.hp,.slice ho K.hx.length hc,.pointer (some ⟨c.cb,0,none⟩),.pointer (some ⟨nb,0,none⟩),.slice (some ⟨w1.heap.size,0,none⟩) m m,.int .u32 K.now] 155)) (ob:=w1.heap.size) (kb:=w2.heap.size) H.out HBd.out HCc.out ((Below.refl _ _).alloc (Nat.le_refl _) (.cells arr 35)) HN2.out.1 HN2.out.2.1 HN2.out.2.2 ((Below.refl _ _).alloc (Nat.le_refl _) _) (by have:=HB1.out.size;have:=HN2.out.2.2.size;simp at this⊢;omega) (by simp) (by have:=HN2.out.2.2.size;simp at this;omega);have hob:((w2).alloc (.cells #[.int .u32 K.hp,.slice ho K.hx.length hc,.pointer (some ⟨c.cb,0,none⟩),.pointer (some ⟨nb,0,none⟩),.slice (some ⟨w1.heap.size,0,none⟩) m m,.int .u32 K.now] 155)).heap[w1.heap.size]? =some (.cells arr 35 (0,0)):=(Below.heap_alloc _ _ _ (by have:=HN2.out.2.2.size;simp at this;omega)).trans ((HN2.out.2.2.block _ (by simp)).trans (heap_alloc_new w1 _));have hkb:((w2).alloc (.cells #[.int .u32 K.hp,.slice ho K.hx.length hc,.pointer (some ⟨c.cb,0,none⟩),.pointer (some ⟨nb,0,none⟩),.slice (some ⟨w1.heap.size,0,none⟩) m m,.int .u32 K.now] 155)).heap[w2.heap.size]? =some (.cells #[.int .u32 K.hp,.slice ho K.hx.length hc,.pointer (some ⟨c.cb,0,none⟩),.pointer (some ⟨nb,0,none⟩),.slice (some ⟨w1.heap.size,0,none⟩) m m,.int .u32 K.now] 155 (0,0)):=heap_alloc_new w2 _;clear HSb hbb HMk HSa;obtain⟨kb,ekb⟩:∃x,w2.heap.size=x:=⟨_,rfl⟩;obtain⟨ob,eob⟩:∃x,w1.heap.size=x:=⟨_,rfl⟩;rw[ekb] at hbs hkb⊢;rw[eob] at hbs hob hkb⊢;generalize (w2).alloc (.cells #[.int .u32 K.hp,.slice ho K.hx.length hc,.pointer (some ⟨c.cb,0,none⟩),.pointer (some ⟨nb,0,none⟩),.slice (some ⟨ob,0,none⟩) m m,.int .u32 K.now] 155)=w4 at*;have HBs:=Lh hbs;have HOb:=Lh hob;have HKb:=Lh hkb;clear hbs hob hkb ekb eob HN2 HCc HB1 HB2 HBd HZd HBa
 case' b2=>
  have hmk:=HMk.out wd;have HSa:=Lh (HS.out _ (below_th HBd.out ((Below.refl _ _).alloc (Nat.le_refl _) (.cells arr 35))));go_simp;refine V hK HSa.out ?_;clear hK K' hmk;have HBa:=Lh (below_th HBd.out ((Below.refl _ _).alloc (Nat.le_refl _) (.cells arr 35)));refine U 8 fun K' hK=> ?_
  go_simp;go_at_call 81;refine(HCa.out (wd.alloc (.cells arr 35)) HBa.out).mono ?_;rintro e w1 ⟨c,rfl,hcc⟩;have HCc:=Lh hcc;have HB1:=Lh (below_th HBa.out hcc.bel);have hS1:=HS.out w1 HB1.out;clear hcc;refine V hK hS1 ?_;clear hK K' hS1;refine U 13 fun K' hK=> ?_
  go_simp;go_at_call 82;refine(HNi.out w1 HB1.out).mono ?_;rintro e w2 ⟨nb,mb2,V2,sv2,rfl,hn2,hf2,hb2⟩;have HN2:=Lh (And.intro hn2 (And.intro hf2 hb2));have HB2:=Lh (below_th HB1.out hb2);have hS2:=HS.out w2 HB2.out;clear hn2 hf2 hb2;refine V hK hS2 ?_;clear hK K' hS2;refine T 24 (HS.out w2 HB2.out) ?_;have hbb:Below w.heap.size w ((w2).alloc (.cells #[.int .u32 K.hp,.slice ho K.hx.length hc,.pointer (some ⟨c.cb,0,none⟩),.pointer (some ⟨nb,0,none⟩),.slice (some ⟨wd.heap.size,0,none⟩) m m,.int .u32 K.now] 155)):=below_th HB2.out ((Below.refl _ _).alloc (Nat.le_refl _) _);have HSb:=Lh (HS.out _ hbb);refine U 25 fun K' hK=> ?_
  go_simp;refine V hK HSb.out ?_;clear hK K';refine T 26 HSb.out ?_;refine wpAnyH_done (by kernel_rfl) ?_ _;have hbs:=CpB.parts (w4:=w2.alloc (.cells #[.int .u32 K.hp,.slice ho K.hx.length hc,.pointer (some ⟨c.cb,0,none⟩),.pointer (some ⟨nb,0,none⟩),.slice (some ⟨wd.heap.size,0,none⟩) m m,.int .u32 K.now] 155)) (ob:=wd.heap.size) (kb:=w2.heap.size) H.out HBa.out HCc.out (Below.refl _ _) HN2.out.1 HN2.out.2.1 HN2.out.2.2 ((Below.refl _ _).alloc (Nat.le_refl _) _) (by have:=HBd.out.size;have h1:=HCc.out.bel.size;have:=HN2.out.2.2.size;simp at h1⊢;omega) (by simp) (by have h1:=HCc.out.bel.size;have:=HN2.out.2.2.size;simp at h1;omega);have hob:((w2).alloc (.cells #[.int .u32 K.hp,.slice ho K.hx.length hc,.pointer (some ⟨c.cb,0,none⟩),.pointer (some ⟨nb,0,none⟩),.slice (some ⟨wd.heap.size,0,none⟩) m m,.int .u32 K.now] 155)).heap[wd.heap.size]? =some (.cells arr 35 (0,0)):=(Below.heap_alloc _ _ _ (by have h1:=HCc.out.bel.size;have:=HN2.out.2.2.size;simp at h1;omega)).trans ((HN2.out.2.2.block _ (by have h1:=HCc.out.bel.size;simp at h1;omega)).trans ((HCc.out.bel.block _ (by simp)).trans (heap_alloc_new wd _)));have hkb:((w2).alloc (.cells #[.int .u32 K.hp,.slice ho K.hx.length hc,.pointer (some ⟨c.cb,0,none⟩),.pointer (some ⟨nb,0,none⟩),.slice (some ⟨wd.heap.size,0,none⟩) m m,.int .u32 K.now] 155)).heap[w2.heap.size]? =some (.cells #[.int .u32 K.hp,.slice ho K.hx.length hc,.pointer (some ⟨c.cb,0,none⟩),.pointer (some ⟨nb,0,none⟩),.slice (some ⟨wd.heap.size,0,none⟩) m m,.int .u32 K.now] 155 (0,0)):=heap_alloc_new w2 _;clear HSb hbb HMk HSa;obtain⟨kb,ekb⟩:∃x,w2.heap.size=x:=⟨_,rfl⟩;obtain⟨ob,eob⟩:∃x,wd.heap.size=x:=⟨_,rfl⟩;rw[ekb] at hbs hkb⊢;rw[eob] at hbs hob hkb⊢;generalize (w2).alloc (.cells #[.int .u32 K.hp,.slice ho K.hx.length hc,.pointer (some ⟨c.cb,0,none⟩),.pointer (some ⟨nb,0,none⟩),.slice (some ⟨ob,0,none⟩) m m,.int .u32 K.now] 155)=w4 at*;have HBs:=Lh hbs;have HOb:=Lh hob;have HKb:=Lh hkb;clear hbs hob hkb ekb eob HN2 HCc HB1 HB2 HBd HZd HBa
 all_goals
  have hst:cpRel w4 a K ob kb #[.int .u32 K.hp,.slice ho K.hx.length hc,.pointer (some ⟨c.cb,0,none⟩),.pointer (some ⟨nb,0,none⟩),.slice (some ⟨ob,0,none⟩) m m,.int .u32 K.now] (.int .i64 0) w4:=⟨0,arr,Nat.zero_le _,rfl,⟨Mod.refl _ _,HOb.out,by rw[HArr.out,HM.out],HKb.out,fun j v l hj=>absurd hj (Nat.not_lt_zero _),fun j v k hj=>absurd hj (Nat.not_lt_zero _),fun j q v u k hj=>absurd hj (Nat.not_lt_zero _)⟩⟩;have HSt:=Lh hst;obtain⟨_,_,_,_,d4,_,_⟩:=HS.out w4 HBs.out.bel;clear hst HOb HKb HArr;go_wp2;clear d4;go_loopw [4,5,39] (fun _ _ vi wr=>cpRel w4 a K ob kb #[.int .u32 K.hp,.slice ho K.hx.length hc,.pointer (some ⟨c.cb,0,none⟩),.pointer (some ⟨nb,0,none⟩),.slice (some ⟨ob,0,none⟩) m m,.int .u32 K.now] vi wr) (fun _ _ vi _=>m - (intOf vi).toNat)
  case atStart=>exact HSt.out
  case round=>
   clear HSt;obtain⟨i,cur,hi,rfl,hr⟩:=hrel;have HR:=Lh hr;have hbr:=Mod.below HBs.out.bel hr.old HBs.out.bel.size fun k _ e=>by subst e;exact HBs.out.ol.1
   have HBr:=Lh hbr;rw[HM.out] at hi;clear hr hbr
   by_cases hin:i<m
   ·have hin':i<K.B.length:=by rw[HM.out];exact hin
    have hl:K.B[i]? =some K.B[i]:=Zg hin';obtain⟨bg,boff,bc2,ra,rc,e1,e2,e3,e4⟩:=row_at (H.out.below HBr.out) hl;rw[HBv.out] at e1;simp only[Value.slice.injEq] at e1;obtain⟨rfl,_,rfl⟩:=e1;have hll:=HBl.out i _ hl;have HL:=Lh hl;generalize K.B[i]=l at*;have ii:(i:Int)<m:=by omega
    have i0:(0:Int)≤i:=by omega
    have HCl:=Lh (Cl.clone_str (cap:=rc) (n:=l.length) (by simp) (Cl.At.below (slv_at e4) (Below.refl _ _).drew) hll (fun u hu=>by obtain⟨f,_,rfl⟩:=List.mem_map.1 hu;rfl));have hk4:wr.cell? ⟨kb,4,none⟩=some (.slice (some ⟨ob,0,none⟩) m m):=by unfold World.cell?;rw[HR.out.hkb];rfl
    have HS4:Hid (∀W,Below wr.heap.size wr W→W.cell? ⟨kb,4,none⟩=some (.slice (some ⟨ob,0,none⟩) m m)∧True):=Lh fun W hW=>⟨cell_below hW hk4,trivial⟩
    have hS:=HS4.out wr.drew (Below.refl _ _).drew;clear hll hl hk4 e2 e4 hin';go_wp2_with fail;clear e3;refine B (fun W=>W.cell? ⟨kb,4,none⟩=some (.slice (some ⟨ob,0,none⟩) m m)∧True) hS ?_;intro wd hwd hS;rw[←hwd] at HCl;have HWd:=Lh hwd;clear hwd;refine T 0 hS ?_;refine T 1 hS ?_;refine T 2 hS ?_;refine T 3 hS ?_;refine T 4 hS ?_;refine T 5 hS ?_;refine U 6 fun K' hK=> ?_
    go_simp;go_at_call 83;refine HCl.out.mono ?_;rintro e w5 ⟨v5,rfl,hs5,hv5,hb5⟩;obtain⟨o5,c5,rfl⟩:=hs5.form;have hbr:Below wr.heap.size wr w5:=by
     have:=HWd.out;subst this;exact(Below.refl _ _).drew.trans hb5
    have hzd:wd.heap.size=wr.heap.size:=by rw[HWd.out];rfl
    have hob5:=(hbr.block _ (lt_of_block HR.out.hob)).trans HR.out.hob;have hkb5:=(hbr.block _ (lt_of_block HR.out.hkb)).trans HR.out.hkb;have hm6:Mod (fun k=>k=ob) w5 (w5.setCell ⟨ob,i,none⟩ (.slice o5 l.length c5)):=Mod.setCell (F:=fun k=>k=ob) (Mod.refl _ _) ⟨ob,i,none⟩ (.inl rfl) _;have hob6:=heap_setCell_same w5 ob i _ _ (.slice o5 l.length c5) hob5;have hz2:=HR.out.old.size;have hz5:=hbr.size;have hz6:=hm6.size;have lo:=lt_of_block HR.out.hob;have lk:=lt_of_block HR.out.hkb;have hset:∀(j:Nat) (v:Value),(cur.setIfInBounds i (.slice o5 l.length c5))[j]? =some v→j=i∧v=.slice o5 l.length c5∨j≠i∧cur[j]? =some v:=fun j v hv=>by
     rw[Array.getElem?_setIfInBounds] at hv
     by_cases e:i=j
     ·rw[if_pos e] at hv
      split at hv
      ·exact .inl ⟨e.symm,(Option.some.inj hv).symm⟩
      ·cases hv
     ·rw[if_neg e] at hv;exact .inr ⟨fun z=>e z.symm,hv⟩
    have fin:cpRel w4 a K ob kb #[.int .u32 K.hp,.slice ho K.hx.length hc,.pointer (some ⟨c.cb,0,none⟩),.pointer (some ⟨nb,0,none⟩),.slice (some ⟨ob,0,none⟩) m m,.int .u32 K.now] (.int .i64 ((i:Int)+1)) (w5.setCell ⟨ob,i,none⟩ (.slice o5 l.length c5)):=by
     refine⟨i+1,_,by rw[HM.out];omega,by simp,⟨(HR.out.old.same (Mod.of_below hbr _)).same hm6,hob6,by rw[Array.size_setIfInBounds];exact HR.out.sz,(hm6.block _ (lt_of_block hkb5) HBs.out.ne).trans hkb5,fun j v lj hj hv hlj=> ?_,fun j v k hj hv hk=> ?_,fun j q v u k hj hq hv hu hk1 hk2=> ?_⟩⟩
     ·rcases hset j v hv with⟨e1,e2⟩|⟨e1,e2⟩
      ·subst e1;subst e2;rw[HL.out] at hlj;cases hlj;exact hs5.mod hm6 fun k hk e=>by have:=(hv5 k hk).1;omega
      ·exact((HR.out.row j v lj (by omega) e2 hlj).below hbr).mod hm6 fun k hk e=>by have:=(HR.out.own j v k (by omega) e2 hk).1;have:=HBs.out.ol.2;omega
     ·rcases hset j v hv with⟨e1,e2⟩|⟨e1,e2⟩
      ·subst e2;have:=hv5 k hk;exact⟨by omega,by omega⟩
      ·have:=HR.out.own j v k (by omega) e2 hk;exact⟨this.1,by omega⟩
     ·rcases hset j v hv with⟨e1,e2⟩|⟨e1,e2⟩
      ·rcases hset q u hu with⟨f1,f2⟩|⟨f1,f2⟩
       ·omega
       ·subst e2;have:=(hv5 k hk1).1;have:=(HR.out.own q u k (by omega) f2 hk2).2;omega
      ·rcases hset q u hu with⟨f1,f2⟩|⟨f1,f2⟩
       ·subst f2;have:=(hv5 k hk2).1;have:=(HR.out.own j v k (by omega) e2 hk1).2;omega
       ·exact HR.out.dist j q v u k (by omega) (by omega) e2 f2 hk1 hk2
    have Fin:=Lh fin;have hs5c:∃y,w5.cell? ⟨ob,i,none⟩=some y:=by
     have:i<cur.size:=by rw[HR.out.sz,HM.out];exact hin
     refine⟨cur[i], ?_⟩;unfold World.cell?;rw[hob5];simp[this]
    obtain⟨y,hy⟩:=hs5c;have hfz:w5.frozen? ⟨ob,i,none⟩=false:=by unfold World.frozen?;rw[hob5];simp
    have hS5:=HS4.out w5 hbr;have hk6:(w5.setCell ⟨ob,i,none⟩ (.slice o5 l.length c5)).cell? ⟨kb,4,none⟩=some (.slice (some ⟨ob,0,none⟩) m m):=by
     rw[World.cell?_of_block (a:=⟨kb,4,none⟩) (w:=w5) (hm6.block kb (lt_of_block hkb5) HBs.out.ne)];exact hS5.1
    have HS6:Hid ((w5.setCell ⟨ob,i,none⟩ (.slice o5 l.length c5)).cell? ⟨kb,4,none⟩=some (.slice (some ⟨ob,0,none⟩) m m)∧True):=Lh ⟨hk6,trivial⟩;clear fin hset hob6 hm6 hob5 hkb5 hzd hbr hs5 hv5 hb5 hz2 hz5 hz6 lo lk hk6 HCl HWd HR HL;refine V hK hS5 ?_;clear hK K';refine T 7 hS5 ?_;clear hS5;refine U 8 fun K' hK=> ?_
    go_simp;refine V hK HS6.out ?_;clear hK K';clear hy hfz;refine wpAnyH_done (by kernel_rfl) ?_ _;go_wp2;exact⟨Fin.out,by simp[intOf];omega⟩
   ·obtain rfl:i=m:=by omega
    have hm':=HM.out;obtain⟨a',hk',q1,q2,q3,q4⟩:=Knl.copied H.out HBs.out (cur:=cur) (w3:=wr) (by rw[HHv.out,hm'];exact HR.out);have HE:=HF1.out wr a' hk' q4 HBr.out;rw[q1] at HE;have HE:=Lh HE;clear hk' q1 q2 q3 q4 hm' HR;go_wp2
    first|exact HE.out|(go_ret;exact HE.out)
end
end Kl
theorem Cp.St.pre.belowW{w w':World}{x:Cp.St}(h:x.pre w)(hb:Below w.heap.size w w'):x.pre w':= {h with rrow:=h.rrow.below hb,prow:=h.prow.below hb,crow:=h.crow.below hb}
theorem In.WdI.pre.below{w w':World}{d:In.WdI}(hd:d.pre w)(hb:Below w.heap.size w w'):d.pre w':=⟨⟨hd.h.p0,hd.h.p1,Ca.words_below hd.h.w hb,hd.h.bd⟩,hd.m.below hb,hd.x.belowW hb,hd.b.below hb⟩
namespace L22
open In
def wlRel(w0:World)(d:WdI)(l:List ClI)(kb eb:Nat)(v11:Value)(wr:World):Prop:=
 ∃(i:Nat) (a:KAt) (K:Kn) (e:EAt) (E:En),i≤l.length∧v11=.int .i64 i∧KEn w0 wr a K e E∧a.kb=kb∧e.eb=eb∧Wi.Lp d K E i
theorem withins(w:World)(d:WdI)(hd:d.pre w)(la:Option Addr)(lcap:Nat)(l:List ClI)(hl:Cls w la l):
  Calls Tryz.prog 3 #[.agg d.cells,.slice la l.length lcap] w fun e w'=>e=.returned (.bool true)∧Below w.heap.size w w':=by
 have hb:Below w.heap.size w (w.alloc (.cells d.cells 37)):=(Below.refl _ _).alloc (Nat.le_refl _) _;have hbx:WBox (w.alloc (.cells d.cells 37)) w.heap.size d:=⟨heap_alloc_new w _⟩;have HBx:=Lh hbx;have HB:=Lh hb;have HD:=Lh (hd.below hb);have HL:=Lh (hl.below hb);obtain⟨w1,hw1⟩:∃w1,w.alloc (.cells d.cells 37)=w1:=⟨_,rfl⟩;obtain⟨bx,hbxe⟩:∃bx,w.heap.size=bx:=⟨_,rfl⟩;rw[hw1] at HBx HB HD HL;rw[hbxe] at HBx;clear hb hbx hd hl;have HC:Hid (∀W,Below w1.heap.size w1 W→W.cell? ⟨bx,0,none⟩=some (.int .u32 d.h.p)∧W.cell? ⟨bx,1,none⟩=some (.slice d.h.a d.h.l.length d.h.cap)∧W.cell? ⟨bx,2,none⟩=some (.int .u32 d.m.m.pages)∧W.cell? ⟨bx,3,none⟩=some (.slice d.m.ea d.m.m.ext.length d.m.ecap)∧W.cell? ⟨bx,4,none⟩=some (.slice d.m.pa d.m.m.ports.length d.m.pcap)∧W.cell? ⟨bx,5,none⟩=some (.bool d.m.m.con)∧W.cell? ⟨bx,6,none⟩=some (.slice d.x.ra d.x.rn d.x.rcap)∧W.cell? ⟨bx,7,none⟩=some (.int .u32 d.x.pc)∧W.cell? ⟨bx,8,none⟩=some (.slice d.x.pa d.x.pn d.x.pcap)∧W.cell? ⟨bx,9,none⟩=some (.int .u16 d.x.at')∧W.cell? ⟨bx,10,none⟩=some (.slice d.x.ca d.x.cn d.x.ccap)∧W.cell? ⟨bx,11,none⟩=some (.int .u16 d.x.wh)∧W.cell? ⟨bx,12,none⟩=some (.string d.x.text)∧W.cell? ⟨bx,13,none⟩=some (.slice d.ba d.bl.length d.bcap)):=Lh fun W hW=>by
  have h:=HBx.out.below hW;exact⟨h.cell 0 _ rfl,h.cell 1 _ rfl,h.cell 2 _ rfl,h.cell 3 _ rfl,h.cell 4 _ rfl,h.cell 5 _ rfl,h.cell 6 _ rfl,h.cell 7 _ rfl,h.cell 8 _ rfl,h.cell 9 _ rfl,h.cell 10 _ rfl,h.cell 11 _ rfl,h.cell 12 _ rfl,h.cell 13 _ rfl⟩
 have HPost:Hid (∀V,Below w1.heap.size w1 V→Ending.returned (.bool true)=.returned (.bool true)∧Below w.heap.size w V):=Lh fun V hV=>⟨rfl,below_th HB.out hV⟩
 generalize hPQ:(fun(e:Ending) (w':World)=>e=.returned (.bool true)∧Below w.heap.size w w')=PQ;have HEnd:Hid (∀V,Below w1.heap.size w1 V→PQ (.returned (.bool true)) V):=Lh fun V hV=>by rw[←hPQ];exact⟨rfl,below_th HB.out hV⟩
 have HHv:Hid (∀V,Below w1.heap.size w1 V→Calls Tryz.prog 8 #[.agg #[.int .u32 d.h.p,.slice d.h.a d.h.l.length d.h.cap,.int .u32 d.m.m.pages,.slice d.m.ea d.m.m.ext.length d.m.ecap,.slice d.m.pa d.m.m.ports.length d.m.pcap,.bool d.m.m.con,.slice d.x.ra d.x.rn d.x.rcap,.int .u32 d.x.pc,.slice d.x.pa d.x.pn d.x.pcap,.int .u16 d.x.at',.slice d.x.ca d.x.cn d.x.ccap,.int .u16 d.x.wh,.string d.x.text,.slice d.ba d.bl.length d.bcap],.slice la l.length lcap] V fun e w'=>∃b,e=.returned (.bool b)∧(b=false→Light d l)∧Below V.heap.size V w'):=Lh fun V hV=>L22.heavy V d (HD.out.below hV) la lcap l (HL.out.below hV)
 have HBo:Hid (∀V,Below w1.heap.size w1 V→Light d l→Calls Tryz.prog 10 #[.agg #[.int .u32 d.h.p,.slice d.h.a d.h.l.length d.h.cap,.int .u32 d.m.m.pages,.slice d.m.ea d.m.m.ext.length d.m.ecap,.slice d.m.pa d.m.m.ports.length d.m.pcap,.bool d.m.m.con,.slice d.x.ra d.x.rn d.x.rcap,.int .u32 d.x.pc,.slice d.x.pa d.x.pn d.x.pcap,.int .u16 d.x.at',.slice d.x.ca d.x.cn d.x.ccap,.int .u16 d.x.wh,.string d.x.text,.slice d.ba d.bl.length d.bcap]] V (BothP V d)):=Lh fun V hV hL=>L22.both V d (HD.out.below hV) hL.bl hL.me hL.mp
 have HMa:Hid (∀V,Below w1.heap.size w1 V→Light d l→Calls Tryz.prog 11 #[.agg #[.slice d.x.ra d.x.rn d.x.rcap,.int .u32 d.x.pc,.slice d.x.pa d.x.pn d.x.pcap,.int .u16 d.x.at',.slice d.x.ca d.x.cn d.x.ccap,.int .u16 d.x.wh,.string d.x.text]] V (Cp.Made22 V d.x)):=Lh fun V hV hL=>Cp.made22 V d.x (HD.out.x.toOk hV hL.x)
 clear hPQ HPost;obtain⟨c0,c1,c2,c3,c4,c5,c6,c7,c8,c9,c10,c11,c12,c13⟩:=HC.out w1 (Below.refl _ _);unfold WdI.cells HdI.v MnI.ev MnI.pv at hw1⊢;go_enter func3,ntmps3;go_wp2_with fail;try rw[hw1]
 try rw[hbxe]
 clear hw1 hbxe;refine(HHv.out _ (Below.refl _ _)).mono ?_;rintro e w2 ⟨hv,rfl,hlt,hb2⟩;have HB2:=Lh hb2;have HLt:=Lh hlt;obtain⟨c0,c1,c2,c3,c4,c5,c6,c7,c8,c9,c10,c11,c12,c13⟩:=HC.out w2 hb2;clear hb2 hlt HHv;cases hv with
 |true=>
  go_wp2_with fail;refine(Cp.alive22 _).mono ?_;rintro e w3 ⟨rfl,hb3⟩;have HE:=Lh (HEnd.out w3 (below_th HB2.out hb3));clear hb3 c0 c1 c2 c3 c4 c5 c6 c7 c8 c9 c10 c11 c12 c13;go_wp2
  first|exact HE.out|(go_ret;exact HE.out)
 |false=>
  have HLi:=Lh (HLt.out rfl);clear HLt;go_wp2_with fail;refine(HBo.out _ HB2.out HLi.out).mono ?_;rintro e w3 (⟨hok,a,b,K0,rfl,hpr,hfr⟩|⟨hok,rfl,hb3⟩)
  rotate_left
  ·have HB3:=Lh (below_th HB2.out hb3);obtain⟨c0,c1,c2,c3,c4,c5,c6,c7,c8,c9,c10,c11,c12,c13⟩:=HC.out w3 HB3.out;clear hb3;go_wp2_with fail;refine(HMa.out _ HB3.out HLi.out).mono ?_;rintro e w4 ⟨e4,E,f,R,F,rfl,hep,_,_⟩;have HB4:=Lh (below_th HB3.out hep.bel);clear hep c0 c1 c2 c3 c4 c5 c6 c7 c8 c9 c10 c11 c12 c13;go_wp2_with fail;refine(Cp.alive22 _).mono ?_;rintro e w5 ⟨rfl,hb5⟩;have HE:=Lh (HEnd.out w5 (below_th HB4.out hb5));clear hb5;go_wp2
   first|exact HE.out|(go_ret;exact HE.out)
  ·have HSh:=Lh (Shp.asked hfr HD.out.m.ok hok);have hl16:d.h.l.length≤16:=by
    unfold Ca.hardOk at hok;simp only[Bool.and_eq_true,decide_eq_true_eq] at hok;exact hok.1.2
   have HL16:=Lh hl16;clear hl16;have hk1:Wi.took ((asked d K0).g 1)=0∧∀G,(asked d K0).g 1=some G→G.m=d.m.m:=by
    unfold asked
    split
    ·show Wi.took (Gp.upd K0.g 1 _ 1)=0∧∀G,Gp.upd K0.g 1 _ 1=some G→_
     rw[Gp.upd_at];exact⟨rfl,fun G hG=>by cases hG;rfl⟩
    ·rw[hfr.g];exact⟨rfl,fun G hG=>by cases hG⟩
   obtain⟨K,hK⟩:∃K,asked d K0=K:=⟨_,rfl⟩;rw[hK] at hpr HSh hk1;have HK1:=Lh hk1;clear hk1;have HB3:=Lh (below_th HB2.out hpr.bel);have HPr:=Lh hpr;obtain⟨c0,c1,c2,c3,c4,c5,c6,c7,c8,c9,c10,c11,c12,c13⟩:=HC.out w3 HB3.out;clear hpr hfr hK hok;go_wp2_with fail;refine(HMa.out _ HB3.out HLi.out).mono ?_;rintro e w4 ⟨e4,E,f,R,F,rfl,hep,hlk,hlk1⟩;have hq:Quad w2 w4 a K e4 E b K f R F:=Quad.of HPr.out hep (by rw[hlk1.num];exact⟨Int.le_refl 1,show(1:Int)≤8 by decide⟩);have hbl:=HPr.out.d.bl;obtain⟨eb,heb⟩:∃x,e4.eb=x:=⟨_,rfl⟩;obtain⟨kb,hkb⟩:∃x,a.kb=x:=⟨_,rfl⟩;have HR0:Hid (wlRel w2 d l kb eb (.int .i64 0) w4):=Lh ⟨0,a,K,e4,E,Nat.zero_le _,rfl,hq.p,hkb,heb,⟨by rw[hlk1.num];rfl,HSh.out,by rw[HK1.out.1,hlk1.own];rfl,hq.p.kn.caps.ok,HK1.out.2,Wi.rows_of hbl⟩⟩;rw[heb,hkb];clear hq heb hkb hbl hep hlk hlk1 c0 c1 c2 c3 c4 c5 c6 c7 c8 c9 c10 c11 c12 c13 HBo HMa HPr HSh HB3 HK1;go_wp2;go_loopw [4,11,12,13,14,15,16,17] (fun _ v11 _ _ _ _ _ _ wr=>wlRel w2 d l kb eb v11 wr) (fun _ v11 _ _ _ _ _ _ _=>l.length - (intOf v11).toNat)
   case atStart=>exact HR0.out
   case round=>
    clear HR0;obtain⟨i,a,K,e,E,hi,rfl,hke,hkb,heb,hlp⟩:=hrel
    by_cases hin:i<l.length
    ·have ii:(i:Int)<l.length:=by omega
     obtain⟨g,o,ea,hc⟩:=(HL.out.below (below_th HB2.out hke.bel)).cell i hin;have hok:=HL.out.ok i hin;have hfr:=HLi.out.f i hin;generalize l[i]=z at*;subst ea;obtain⟨z0,z1,z2,z3,z4,z5,z6⟩:wr.cell? ⟨g,o+i*7,none⟩=some (.int .i64 z.dn)∧wr.cell? ⟨g,o+i*7+1,none⟩=some (.int .u32 z.nm)∧wr.cell? ⟨g,o+i*7+2,none⟩=some (.int .u32 (z.c 0))∧wr.cell? ⟨g,o+i*7+3,none⟩=some (.int .u32 (z.c 1))∧wr.cell? ⟨g,o+i*7+4,none⟩=some (.int .u32 (z.c 2))∧wr.cell? ⟨g,o+i*7+5,none⟩=some (.int .u32 (z.c 3))∧wr.cell? ⟨g,o+i*7+6,none⟩=some (.string z.fr):=⟨hc 0 (by omega),hc 1 (by omega),hc 2 (by omega),hc 3 (by omega),hc 4 (by omega),hc 5 (by omega),hc 6 (by omega)⟩;clear hc;have hbc:=heap_alloc_new wr (.cells #[.int .i64 z.dn,.int .u32 z.nm,.int .u32 (z.c 0),.int .u32 (z.c 1),.int .u32 (z.c 2),.int .u32 (z.c 3),.string z.fr] 51);have hbl:Below wr.heap.size wr (wr.alloc (.cells #[.int .i64 z.dn,.int .u32 z.nm,.int .u32 (z.c 0),.int .u32 (z.c 1),.int .u32 (z.c 2),.int .u32 (z.c 3),.string z.fr] 51)):=(Below.refl _ _).alloc (Nat.le_refl _) _;have hq:=hke.below hbl;have HN:Hid (a.tag wr.heap.size=0∧¬e.foot E.A wr.heap.size):=Lh ⟨Decidable.byContradiction fun q=>Nat.lt_irrefl _ (hke.kn.lt _ q),fun q=>Nat.lt_irrefl _ (hke.en.lt _ q)⟩;obtain⟨dn,hdn⟩:∃x,z.dn=x:=⟨_,rfl⟩;obtain⟨nm,hnmz⟩:∃x,z.nm=x:=⟨_,rfl⟩;obtain⟨t,ht⟩:∃x,z.fr=x:=⟨_,rfl⟩;obtain⟨zc,hzc⟩:∃x,z.c=x:=⟨_,rfl⟩;have hok1:=hok.n;have hok2:=hok.c;have hok3:=hok.f;rw[hdn] at z0 hbc hq;rw[hnmz] at z1 hbc hq hok1;rw[hzc] at z2 z3 z4 z5 hbc hq hok2;rw[ht] at z6 hbc hq hok3 hfr;clear hdn hnmz ht hzc hok hbl hke;obtain⟨wx,hwx⟩:∃wx,wr.alloc (.cells #[.int .i64 dn,.int .u32 nm,.int .u32 (zc 0),.int .u32 (zc 1),.int .u32 (zc 2),.int .u32 (zc 3),.string t] 51)=wx:=⟨_,rfl⟩;obtain⟨bc,hbce⟩:∃x,wr.heap.size=x:=⟨_,rfl⟩;rw[hwx] at hbc hq;rw[hbce] at hbc HN;have HQ:=Lh hq;have HBc:=Lh hbc;have HKb:=Lh hkb;have HEb:=Lh heb;have HLp:=Lh hlp;have HOk:=Lh (And.intro hok1 (And.intro hok2 (And.intro hok3 hfr)));have iw:IntKind.i64.wrap ((i:Int)+1)=(i:Int)+1:=by have:=HLi.out.ll;rw[IntKind.wrap_i64];omega
     have x0:wx.cell? ⟨bc,0,none⟩=some (.int .i64 dn):=by unfold World.cell?;rw[hbc];rfl
     have x1:wx.cell? ⟨bc,1,none⟩=some (.int .u32 nm):=by unfold World.cell?;rw[hbc];rfl
     have x2:wx.cell? ⟨bc,2,none⟩=some (.int .u32 (zc 0)):=by unfold World.cell?;rw[hbc];rfl
     have x3:wx.cell? ⟨bc,3,none⟩=some (.int .u32 (zc 1)):=by unfold World.cell?;rw[hbc];rfl
     have x4:wx.cell? ⟨bc,4,none⟩=some (.int .u32 (zc 2)):=by unfold World.cell?;rw[hbc];rfl
     have x5:wx.cell? ⟨bc,5,none⟩=some (.int .u32 (zc 3)):=by unfold World.cell?;rw[hbc];rfl
     have x6:wx.cell? ⟨bc,6,none⟩=some (.string t):=by unfold World.cell?;rw[hbc];rfl
     clear hq hbc hkb heb hlp hok1 hok2 hok3 hfr;have hc6:∀W:World,W.heap[bc]? =some (.cells (callC dn nm zc t) 51 (0,0))→W.cell? ⟨bc,6,none⟩=some (.string t)∧W.cell? ⟨bc,0,none⟩=some (.int .i64 dn)∧True:=fun W hW=>⟨by unfold World.cell?;rw[hW];rfl,by unfold World.cell?;rw[hW];rfl,trivial⟩
     have HC6:=Lh hc6;clear hc6
     by_cases hd1:dn=1
     ·have e1:(dn == 1)=true:=beq_iff_eq.2 hd1;have e0:(dn == 0)=false:=beq_eq_false_iff_ne.2 (by omega);clear hd1;go_wp2_with fail;try rw[hwx]
      try rw[hbce]
      clear z0 z1 z2 z3 z4 z5 z6 x0 x1 x2 x3 x4 x5 x6 hwx hbce;refine B (fun W=>W.cell? ⟨bc,6,none⟩=some (.string t)∧W.cell? ⟨bc,0,none⟩=some (.int .i64 dn)∧True) (HC6.out wx.drew HBc.out) ?_;intro wd hwd hS;have HQd:Hid (KEn w2 wd a K e E):=Lh (by subst hwd;exact HQ.out.below (Below.refl _ _).drew);have HBd:Hid (wd.heap[bc]? =some (.cells (callC dn nm zc t) 51 (0,0))):=Lh (by subst hwd;exact HBc.out);clear hwd HQ HBc;refine T 0 hS ?_;refine T 2 hS ?_;refine T 3 hS ?_;refine U 1 fun K' hK=> ?_
      have hnic:=Kl.nic HQd.out.kn;rw[HKb.out] at hnic;have HNi:=Lh hnic;clear hnic;go_simp;go_at_call 12;refine HNi.out.mono ?_;rintro r w9 ⟨rfl,rfl⟩;refine V hK hS ?_;clear hK K' hS HNi;refine U 4 fun K' hK=> ?_
      go_simp;go_at_call 13;refine(Kl.arrive HQd.out.kn t HOk.out.2.2.1 (by have:=HLp.out.shp.gone;have:=HLi.out.ll;omega)).mono ?_;rintro r w9 ⟨rfl,a9,hs9⟩;have hq9:=HQd.out.step ((JStep.refl HQd.out.ke).left hs9) rfl;have hb9:=(hs9.mod.block _ (lt_of_block HBd.out) fun g=>g.1 HN.out.1).trans HBd.out;have fin:wlRel w2 d l kb eb (.int .i64 ((i:Int)+1)) w9:=⟨i+1,a9,_,e,E,hin,by simp,hq9,hs9.same.1.trans HKb.out,HEb.out,HLp.out.arrive t⟩;have Fin:=Lh fin;refine V hK (HC6.out _ hb9) ?_;clear hK K';refine wpAnyH_done (by kernel_rfl) ?_ _;obtain⟨_,x0,_⟩:=HC6.out _ hb9;clear fin hq9 hb9 hs9 HQd HBd HLp;go_wp2;exact⟨Fin.out,by simp[intOf];omega⟩
     have e1:(dn == 1)=false:=beq_eq_false_iff_ne.2 hd1
     by_cases hd0:dn=0
     ·subst hd0;have hsta:=Ev.state HQ.out.en;rw[HEb.out] at hsta;have HSta:=Lh hsta;have hfd:=fun V=>kindOf E.kind E.code E.why V
      clear hsta hd1 e1
      by_cases hk2:E.kind=2
      ·rw[hk2] at HSta hfd;have hst:=fun V (hV:Below wx.heap.size wx V)=>Kl.set_nil (HQ.out.en.below hV) 0 nm (fun j=>if j<4 then zc j else 0) t (fun j=>by
        by_cases q:j<4
        ·simp only[q,if_true];exact HOk.out.2.1 j q
        ·simp only[q,if_false];omega)
       rw[HEb.out] at hst;have HSet:=Lh hst;clear hst;go_wp2_with fail;try rw[hwx]
       try rw[hbce]
       refine HSta.out.mono ?_;rintro r w5 ⟨rfl,hb5⟩;have hbc5:=(hb5.block _ (lt_of_block HBc.out)).trans HBc.out;have x0:w5.cell? ⟨bc,0,none⟩=some (.int .i64 0):=by unfold World.cell?;rw[hbc5];rfl
       have x1:w5.cell? ⟨bc,1,none⟩=some (.int .u32 nm):=by unfold World.cell?;rw[hbc5];rfl
       have x2:w5.cell? ⟨bc,2,none⟩=some (.int .u32 (zc 0)):=by unfold World.cell?;rw[hbc5];rfl
       have x3:w5.cell? ⟨bc,3,none⟩=some (.int .u32 (zc 1)):=by unfold World.cell?;rw[hbc5];rfl
       have x4:w5.cell? ⟨bc,4,none⟩=some (.int .u32 (zc 2)):=by unfold World.cell?;rw[hbc5];rfl
       have x5:w5.cell? ⟨bc,5,none⟩=some (.int .u32 (zc 3)):=by unfold World.cell?;rw[hbc5];rfl
       have x6:w5.cell? ⟨bc,6,none⟩=some (.string t):=by unfold World.cell?;rw[hbc5];rfl
       have HQ5:=Lh (HQ.out.below hb5);have HSet5:=Lh (HSet.out w5 hb5);have HBc5:=Lh hbc5;clear hb5 hbc5 HQ HBc HSet HSta hwx hbce;go_wp2_with fail;refine HSet5.out.mono ?_;rintro r w6 ⟨rfl,hs6⟩;have HQ6:=Lh (HQ5.out.step ((JStep.refl HQ5.out.ke).right hs6) rfl);have hbc6:=(hs6.mod.block _ (lt_of_block HBc5.out) HN.out.2).trans HBc5.out;have HBc6:=Lh hbc6;have HLp6:=Lh (HLp.out.regs (regs4 E.r (fun j=>if j<4 then zc j else 0) 4));have hk6:({E with r:=regs4 E.r (fun j=>if j<4 then zc j else 0) 4}:En).kind=2:=hk2;have HK6:=Lh hk6;have hnx:a.tag bc=0∧¬e.foot ({E with r:=regs4 E.r (fun j=>if j<4 then zc j else 0) 4}:En).A bc:=HN.out;have HNx:=Lh hnx;clear hnx;clear hs6 hbc6 hk6 HQ5 HSet5 HBc5 HLp x0 x1 x2 x3 x4 x5 x6 z0 z1 z2 z3 z4 z5 z6;generalize ({E with r:=regs4 E.r (fun j=>if j<4 then zc j else 0) 4}:En)=E6 at*;have hcp:=Kl.copy HQ6.out.kn (by have:=HLp6.out.shp.sent;have:=HLi.out.ll;omega) (Wi.rows_le HLp6.out.row).1 (Wi.rows_le HLp6.out.row).2;rw[HKb.out] at hcp;have HCp:=Lh hcp;clear hcp;go_wp2_with fail;refine HCp.out.mono ?_;rintro r w7 ⟨x7,rfl,hkx,htx,hb7⟩;have HQ7:=Lh (HQ6.out.below hb7);have HX7:=Lh (And.intro hkx htx);have HB7:=Lh hb7;have hec:=Ev.copy HQ7.out.en;rw[HEb.out] at hec;have HEc:=Lh hec;clear hkx htx hb7 hec HCp;go_wp2_with fail;refine HEc.out.mono ?_;rintro r w8 ⟨f8,E8,rfl,hf8,hl8,ht8,hb8⟩;have HQ8:=Lh (HQ7.out.below hb8);have HX8:=Lh (HX7.out.1.below hb8);have HF8:=Lh hf8;have HL8:=Lh (And.intro hl8 ht8);have hbc8:=(hb8.block _ (lt_of_block ((HB7.out.block _ (lt_of_block HBc6.out)).trans HBc6.out))).trans ((HB7.out.block _ (lt_of_block HBc6.out)).trans HBc6.out);have HBc8:=Lh hbc8;have x1:w8.cell? ⟨bc,1,none⟩=some (.int .u32 nm):=by unfold World.cell?;rw[hbc8];rfl
       have hdo:=Kl.does HQ8.out.ke HQ8.out.num HK6.out (by have:=HLp6.out.shp.sent;have:=HLi.out.ll;omega) nm HOk.out.1.1 HOk.out.1.2;rw[HKb.out,HEb.out] at hdo;have HDo:=Lh hdo;clear hf8 hl8 ht8 hb8 hbc8 hdo HEc;go_wp2_with fail;refine(Ev.space HF8.out).mono ?_;rintro r w9 ⟨rfl,rfl⟩;go_wp2_with fail;refine(Kl.nic HX8.out).mono ?_;rintro r w9 ⟨rfl,rfl⟩;go_wp2_with fail;refine HDo.out.mono ?_;rintro r w9 ⟨blk,a9,e9,rfl,hj⟩;have hq9:=HQ8.out.step hj (L22.doE_num K E6 blk nm);have hx9:=HX8.out.keep hj.mod fun k hk g=>by
        rcases HX7.out.2 k hk with q|⟨q1,q2⟩
        ·rcases g with g|g
         ·have:=HQ6.out.kn.lt k g.1;omega
         ·have:=HQ6.out.en.lt k g;omega
        ·rcases g with g|g
         ·exact g.2 q1
         ·have:=HQ6.out.apart k g;omega
       have hf9:=HF8.out.keep hj.mod fun k hk g=>by
        have q:=HL8.out.2 k hk;rcases g with g|g
        ·have:=HQ7.out.kn.lt k g.1;omega
        ·have:=HQ7.out.en.lt k g;omega
       have F:=Wi.fine_like HL8.out.1 (Wi.fine (HLp6.out.inv HQ6.out.en) HK6.out blk nm (fun j=>(arg_bd HQ6.out.en j).1));have hlp9:=HLp6.out.doK (HLp6.out.inv HQ6.out.en) HK6.out blk nm (fun j=>(arg_bd HQ6.out.en j).1) hq9.kn.caps.ok;have hka:=hj.same.1.1.trans HKb.out;have hea:=hj.same.2.1.trans HEb.out;have hbl9:Below w1.heap.size w1 w9:=below_th HB2.out hq9.bel;obtain⟨ev,hev⟩:∃ev,Kl.evt K E6 blk nm=ev:=⟨_,rfl⟩;rw[hev];obtain⟨p0,p1,p2,p3,p4⟩:=ev;simp only[Kl.evC];have hb10:Below w9.heap.size w9 (w9.alloc (.cells #[.int .u8 p0,.int .i64 p1,.string p2,.int .u32 p3] 66)):=(Below.refl _ _).alloc (Nat.le_refl _) _;have hn10:=heap_alloc_new w9 (.cells #[.int .u8 p0,.int .i64 p1,.string p2,.int .u32 p3] 66);have hbc8:=HBc8.out;have hbc9:=(hj.mod.block _ (lt_of_block hbc8) (fun g=>by
        rcases g with g|g
        ·exact g.1 HNx.out.1
        ·exact HNx.out.2 g)).trans hbc8
       have HKa:=Lh (And.intro hka hea);have hn:=(hb10.block _ (lt_of_block hbc9)).trans hbc9;obtain⟨w10,hw10⟩:∃x,w9.alloc (.cells #[.int .u8 p0,.int .i64 p1,.string p2,.int .u32 p3] 66)=x:=⟨_,rfl⟩;obtain⟨b15,hb15⟩:∃x,w9.heap.size=x:=⟨_,rfl⟩;have hB10:=below_th hbl9 hb10;have hQ10:=hq9.below hb10;have hX10:=hx9.below hb10;have hF10:=hf9.below hb10;rw[hw10] at hn10 hn hB10 hQ10 hX10 hF10;rw[hb15] at hn10;have HB10:=Lh hB10;have HQ10:=Lh hQ10;have HBc10:=Lh hn;have HEv10:=Lh hn10;have HEv:=Lh hev;have HKa:=Lh (And.intro hka hea);have hnum8:E8.num=1:=HL8.out.1.num.trans HLp6.out.num;have hl16:=HL16.out;have hwi:∀V,Below w10.heap.size w10 V→Calls Tryz.prog 20 #[.pointer (some ⟨kb,0,none⟩),.pointer (some ⟨x7.kb,0,none⟩),.pointer (some ⟨eb,0,none⟩),.pointer (some ⟨f8.eb,0,none⟩),.agg d.cells,.slice (some ⟨g,o,none⟩) l.length lcap] V fun r w'=>r=.returned (.bool true)∧Below V.heap.size V w':=fun V hV=>by
        have:=L22.within (lcap:=lcap) (hQ10.kn.below hV) (hX10.below hV) (hQ10.en.below hV) (hF10.below hV) (HD.out.below (below_th hB10 hV)) (HL.out.below (below_th hB10 hV)) F hnum8 hl16 (hlp9.pages HD.out.m.ok.p0) (by have:=hlp9.shp.sent;have:=HLi.out.ll;omega) (by have:=HLp6.out.shp.sent;have:=HLi.out.ll;omega) (fun t ht=>by have:=Wi.doK_small ht;omega) (by have:=HLp6.out.left_same hlp9 ((Wi.fine (HLp6.out.inv HQ6.out.en) HK6.out blk nm (fun j=>(arg_bd HQ6.out.en j).1)).g 1);rw[HL8.out.1.own];exact this) (Kp.Ok.of hF10.sp) (Kp.Ok.of hQ10.en.sp);rw[hka,hea] at this;exact this
       unfold WdI.cells HdI.v MnI.ev MnI.pv at hwi;have HWi:=Lh hwi;have har:∀V,Below w10.heap.size w10 V→Calls Tryz.prog 22 #[.pointer (some ⟨eb,0,none⟩),.int .i64 2] V _:=fun V hV=>by
        have:=Ev.arg (hQ10.en.below hV) 2 (by decide) (by decide);rw[hea] at this;exact this
       have HAr:=Lh har;have hbx1:∀V,Below w10.heap.size w10 V→V.cell? ⟨bc,1,none⟩=some (.int .u32 nm):=fun V hV=>by
        have q:=(hV.block _ (lt_of_block hn)).trans hn;unfold World.cell?;rw[q];rfl
       have HBx1:=Lh hbx1;have hfin:∀V,Below w10.heap.size w10 V→wlRel w2 d l kb eb (.int .i64 ((i:Int)+1)) V:=fun V hV=>⟨i+1,a9,_,e9,_,hin,by simp,hQ10.below hV,hka,hea,hlp9⟩
       have HFin:=Lh hfin
       by_cases hrf:nm≠1∧(Co.doE K E6 blk nm).arg 2≠0
       ·obtain⟨r1,r2,r3,rr,r4⟩:=Wi.doE_refused blk nm hrf.1 hrf.2;rw[hev] at r2;obtain rfl:p4=false:=r2;have hre:∀V,Below w10.heap.size w10 V→Calls Tryz.prog 23 #[.pointer (some ⟨kb,0,none⟩),.pointer (some ⟨x7.kb,0,none⟩),.pointer (some ⟨eb,0,none⟩),.pointer (some ⟨f8.eb,0,none⟩),.agg d.cells,.slice (some ⟨g,o,none⟩) l.length lcap,.bool false] V fun r w'=>r=.returned (.bool true)∧Below V.heap.size V w':=fun V hV=>by
         have hk9:=hQ10.kn.below hV;rw[r1] at hk9;have hl8:=HL8.out.1;have:=L22.refused (lcap:=lcap) hk9 (hX10.below hV) (hQ10.en.below hV) (hF10.below hV) (HD.out.below (below_th hB10 hV)) (HL.out.below (below_th hB10 hV)) hl16 (by have:=HLp6.out.shp.sent;have:=HLi.out.ll;omega) r3 (by rw[r4];exact hl8.text.symm) (by rw[r4];exact hl8.own.symm) (by rw[r4];exact⟨hl8.kind.symm,hl8.code.symm,hl8.why.symm⟩) (by rw[r4];exact hl8.A.symm) (Kp.Ok.of hF10.sp);rw[hka,hea] at this;exact this
        unfold WdI.cells HdI.v MnI.ev MnI.pv at hre;have HRe:=Lh hre;have hg1:(nm != 1)=true:=bne_iff_ne.2 hrf.1;have hg2:((Co.doE K E6 blk nm).arg 2 != 0)=true:=bne_iff_ne.2 hrf.2;generalize (Co.doE K E6 blk nm).arg 2=y2 at*;obtain⟨c0,c1,c2,c3,c4,c5,c6,c7,c8,c9,c10,c11,c12,c13⟩:=HC.out w10 hB10;clear hrf r1 r3 r4 hre hfin hbx1 har hwi hl16 hnum8 hka hea hev hn10 hn hB10 hQ10 hX10 hF10 hb10 hbc9 hbc8 hbl9 hlp9 F hf9 hx9 hq9 hj HDo x1;go_wp2_with fail;try rw[hw10]
        try rw[hb15]
        clear hw10 hb15;refine(HWi.out _ (Below.refl _ _)).mono ?_;rintro r w11 ⟨rfl,hb11⟩;have x1:=HBx1.out _ hb11;have HB11:=Lh hb11;clear hb11 c0 c1 c2 c3 c4 c5 c6 c7 c8 c9 c10 c11 c12 c13;go_wp2_with fail;refine(HAr.out _ HB11.out).mono ?_;rintro r w12 ⟨rfl,rfl⟩;obtain⟨c0,c1,c2,c3,c4,c5,c6,c7,c8,c9,c10,c11,c12,c13⟩:=HC.out _ (below_th HB10.out HB11.out);go_wp2_with fail;refine(HRe.out _ HB11.out).mono ?_;rintro r w13 ⟨rfl,hb13⟩;have Fin:=Lh (HFin.out _ (below_th HB11.out hb13));clear hb13 c0 c1 c2 c3 c4 c5 c6 c7 c8 c9 c10 c11 c12 c13 x1;go_wp2;exact⟨Fin.out,by simp[intOf];omega⟩
       ·have hsh:p4=true→∀V,Below w10.heap.size w10 V→Calls Tryz.prog 21 #[.pointer (some ⟨kb,0,none⟩),.pointer (some ⟨eb,0,none⟩),.agg #[.int .u8 p0,.int .i64 p1,.string p2,.int .u32 p3]] V fun r w'=>r=.returned (.bool true)∧Below V.heap.size V w':=fun q V hV=>by
         subst q;obtain⟨s1,s2,s3⟩:=Wi.evt_shown (HLp6.out.inv HQ6.out.en) HK6.out HLp6.out.num blk nm (fun j=>(arg_bd HQ6.out.en j).1) hev;have:=L22.shown (hQ10.kn.below hV) (hQ10.en.below hV) p0 p1 p2 p3 s1 s2 s3;rw[hka,hea] at this;exact this
        have HSh:=Lh hsh;have hev4:∀V,Below w10.heap.size w10 V→V.cell? ⟨b15,0,none⟩=some (.int .u8 p0)∧V.cell? ⟨b15,1,none⟩=some (.int .i64 p1)∧V.cell? ⟨b15,2,none⟩=some (.string p2)∧V.cell? ⟨b15,3,none⟩=some (.int .u32 p3):=fun V hV=>by
         have q:=(hV.block _ (lt_of_block hn10)).trans hn10;refine⟨?_, ?_, ?_, ?_⟩<;>(unfold World.cell?;rw[q];rfl)
        have HE4:=Lh hev4;have hrf':nm=1∨(Co.doE K E6 blk nm).arg 2=0:=by
         by_cases q1:nm=1
         ·exact .inl q1
         ·exact .inr (Decidable.byContradiction fun q2=>hrf ⟨q1,q2⟩)
        generalize (Co.doE K E6 blk nm).arg 2=y2 at*;have HRf:=Lh hrf';obtain⟨c0,c1,c2,c3,c4,c5,c6,c7,c8,c9,c10,c11,c12,c13⟩:=HC.out w10 hB10;clear hrf hrf' hev4 hsh hfin hbx1 har hwi hl16 hnum8 hka hea hev hn10 hn hB10 hQ10 hX10 hF10 hb10 hbc9 hbc8 hbl9 hlp9 F hf9 hx9 hq9 hj HDo x1 HEv;cases p4
        case' true=>
         go_wp2_with fail;try rw[hw10]
         try rw[hb15]
         clear hw10 hb15;refine(HWi.out _ (Below.refl _ _)).mono ?_;rintro r w11 ⟨rfl,hb11⟩;obtain⟨v0,v1,v2,v3⟩:=HE4.out _ hb11;have HB11:=Lh hb11;clear hb11 c0 c1 c2 c3 c4 c5 c6 c7 c8 c9 c10 c11 c12 c13;go_wp2_with fail;refine(HSh.out (by first|rfl|trivial) _ HB11.out).mono ?_;rintro r wz ⟨rfl,hb12⟩;have HBz:=Lh (below_th HB11.out hb12);clear hb12 v0 v1 v2 v3 HB11
        case' false=>
         go_wp2_with fail;try rw[hw10]
         try rw[hb15]
         clear hw10 hb15;refine(HWi.out _ (Below.refl _ _)).mono ?_;rintro r wz ⟨rfl,hb11⟩;have HBz:=Lh hb11;clear hb11 c0 c1 c2 c3 c4 c5 c6 c7 c8 c9 c10 c11 c12 c13
        all_goals
         have x1:=HBx1.out _ HBz.out;have Fin:=Lh (HFin.out _ HBz.out)
         by_cases q1:nm=1
         ·have hg1:(nm != 1)=false:=by rw[q1];rfl
          clear q1;go_wp2;exact⟨Fin.out,by simp[intOf];omega⟩
         ·have hg1:(nm != 1)=true:=bne_iff_ne.2 q1;have hg2:(y2 != 0)=false:=by rw[HRf.out.resolve_left q1];rfl
          clear q1;go_wp2_with fail;refine(HAr.out _ HBz.out).mono ?_;rintro r w12 ⟨rfl,rfl⟩;go_wp2;exact⟨Fin.out,by simp[intOf];omega⟩
      ·have hkn:(E.kind != 2)=true:=bne_iff_ne.2 hk2;have hkn2:(E.kind == 2)=false:=beq_eq_false_iff_ne.2 hk2;obtain⟨ki,hki⟩:∃k,E.kind=k:=⟨_,rfl⟩;rw[hki] at HSta hfd hkn hkn2;clear hki hk2;go_wp2_with fail;try rw[hwx]
       try rw[hbce]
       refine HSta.out.mono ?_;rintro r w5 ⟨rfl,hb5⟩;have fin:wlRel w2 d l kb eb (.int .i64 ((i:Int)+1)) w5:=⟨i+1,a,K,e,E,hin,by simp,HQ.out.below hb5,HKb.out,HEb.out,HLp.out.mono⟩;have Fin:=Lh fin;clear fin hb5 HQ HLp HBc HC6 HSta z0 z1 z2 z3 z4 z5 z6 x0 x1 x2 x3 x4 x5 x6 hwx hbce;go_wp2;exact⟨Fin.out,by simp[intOf];omega⟩
     ·have e0:(dn == 0)=false:=beq_eq_false_iff_ne.2 hd0;have e0n:(dn != 0)=true:=bne_iff_ne.2 hd0;have fin:wlRel w2 d l kb eb (.int .i64 ((i:Int)+1)) wx:=⟨i+1,a,K,e,E,hin,by simp,HQ.out,HKb.out,HEb.out,HLp.out.mono⟩;have Fin:=Lh fin;clear fin hd0 hd1 HQ HLp HBc HC6;go_wp2;exact⟨Fin.out,by simp[intOf];omega⟩
    ·obtain rfl:i=l.length:=by omega
     have ii:¬(l.length:Int)<l.length:=by omega
     have HBr:=Lh (below_th HB2.out hke.bel);clear hke hkb heb hlp;go_wp2_with fail;refine(Cp.alive22 _).mono ?_;rintro r w7 ⟨rfl,hb7⟩;have HE:=Lh (HEnd.out w7 (below_th HBr.out hb7));clear hb7;go_wp2
     first|exact HE.out|(go_ret;exact HE.out)
end L22
end Go.Proofs.YtjjdjpdmgaipeaaGreat
