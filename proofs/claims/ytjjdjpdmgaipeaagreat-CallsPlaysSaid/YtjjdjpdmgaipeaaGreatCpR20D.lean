/- R20D, R20E, R22, TskG, R22B, Duo, WordBytes in one text. -/
import Derived.Test.YtjjdjpdmgaipeaaGreatCpR19F
import Derived.Test.YtjjdjpdmgaipeaaGreatCpR19C
import Derived.Test.YtjjdjpdmgaipeaaGreatCpGrantG
import Derived.Test.YtjjdjpdmgaipeaaGreatCpKnG
import Derived.Test.YtjjdjpdmgaipeaaGreatCpCor
import Derived.Deep.RegionHeld3
import Derived.Test.YtjjdjpdmgaipeaaGreatCpPag
import Derived.Test.YtjjdjpdmgaipeaaGreatProg
import Derived.LoopTactic
import Derived.Deep.RegionLaw
import Derived.Deep.AppendLies
import Derived.WalkSpells
import Derived.WalkLawsBesides
import Derived.OwnWalk
import Derived.Outline
import Derived.Test.YtjjdjpdmgaipeaaGreatCpZa
set_option linter.unusedVariables false
set_option linter.unusedSimpArgs false
set_option maxRecDepth 100000
set_option maxHeartbeats 16000000
open Go.Proofs.Tryz
namespace Go.Proofs.YtjjdjpdmgaipeaaGreat
open Go.RowKit
namespace Rn
section
variable {w:World} {a:RnAt} {S:Ni.NicS}
def ArP(w:World)(a:RnAt)(S:Ni.NicS)(f:ByteArray)(e:Ending)(w':World):Prop:=e=.returned (.tuple #[.int .u16 (Ni.arriveP f),.bool (Ni.arriveB S f),.int .i64 (Ni.arriveE f)])∧Post w a (Ni.arriveS S f) w'
theorem arrive(h:Rns w a S)(f:ByteArray)(hf:f.size<140737488355328)(g0:0≤S.gone)(g1:S.gone<9223372036854775807):Calls Tryz.prog 103 #[.pointer (some ⟨a.rb,0,none⟩),.string f] w (ArP w a S f):=by
 have HMy:=Lh (may f hf w);cases hb:Ni.mayB f with
 |false=>
  rw[hb] at HMy;have HEnd:Hid (∀V,V=w→ArP w a S f (.returned (.tuple #[.int .u16 0,.bool false,.int .i64 2])) V):=Lh fun V e=>by
   subst e;refine⟨?_, ?_⟩
   ·unfold Ni.arriveP Ni.arriveB Ni.arriveE;rw[hb];rfl
   ·unfold Ni.arriveS;rw[hb];exact Post.refl h Br
  clear hb h;generalize ArP w a S f=PQ at*;go_enter func103,ntmps103;go_wp2_with fail;refine HMy.out.mono ?_;rintro e w1 ⟨rfl,rfl⟩;go_wp2;go_ret3;exact HEnd.out _ rfl
 |true=>
  rw[hb] at HMy;have HTo:=Lh (to_ f hf w);have hbd:=Ni.portV_bd f 22 (by omega);have HGone:Hid (∀W,Below w.heap.size w W→(Ni.portB f=false∨8≤(S.q (Ni.portV f 22)).length)→ArP w a S f (.returned (.tuple #[.int .u16 (Ni.portV f 22),.bool false,.int .i64 0])) (W.setCell ⟨a.rb,2,none⟩ (.int .i64 (S.gone+1)))):=Lh fun W h1 h2=>by
   refine⟨?_, ?_⟩
   ·unfold Ni.arriveP Ni.arriveB Ni.arriveE;rw[hb];rcases h2 with z|z
    ·rw[z];rfl
    ·rw[show decide ((S.q (Ni.portV f 22)).length<8)=false from decide_eq_false (by omega)];simp
   ·unfold Ni.arriveS;rw[if_pos hb,if_neg (by rintro⟨z1,z2⟩;rcases h2 with z|z;(rw[z] at z1;cases z1);omega)];exact layGone h h1 _
  have HKept:Hid (∀W,Post w a (Ni.qSet S (Ni.portV f 22) (S.q (Ni.portV f 22)++[f])) W→Ni.portB f=true→(S.q (Ni.portV f 22)).length<8→ArP w a S f (.returned (.tuple #[.int .u16 (Ni.portV f 22),.bool true,.int .i64 0])) W):=Lh fun W h1 h2 h3=>by
   refine⟨?_, ?_⟩
   ·unfold Ni.arriveP Ni.arriveB Ni.arriveE;rw[hb,h2,decide_eq_true h3];rfl
   ·unfold Ni.arriveS;rw[if_pos hb,if_pos ⟨h2,h3⟩];exact h1
  have hfs:f.size≤128:=by unfold Ni.mayB at hb;simp at hb;omega
  generalize ArP w a S f=PQ at*;clear hb;have H:=Lh fun V (hV:Below w.heap.size w V)=>h.below hV
  generalize hpv:Ni.portV f 22=p at*;cases hp:Ni.portB f with
  |false=>
   rw[hp] at HTo;have HPb:=Lh hp;clear hp h hpv;go_enter func103,ntmps103;go_wp2_with fail;refine HMy.out.mono ?_;rintro e w1 ⟨rfl,rfl⟩;go_wp2_with fail;refine HTo.out.mono ?_;rintro e w1 ⟨rfl,hb1⟩;obtain⟨c0,c1,c2,cf⟩:=(H.out _ hb1).cells;have hend:=HGone.out _ hb1 (.inl HPb.out);clear hb1;go_wp2;go_ret3;exact hend
  |true=>
   rw[hp] at HTo;have HPb:=Lh hp;clear hp
   by_cases hl:(S.q p).length<8
   ·obtain⟨i0,hi0',hz0,hz1,hz2⟩:=info_parts info_wt;have HI:=Lh (And.intro hi0' (And.intro hz0 (And.intro hz1 hz2)));have HLn:=Lh fun V (hV:Below w.heap.size w V)=>len (h.below hV) p
    have hl8:¬(8:Int)≤((S.q p).length:Int):=by omega
    have HL:=Lh hl;have HQ8:Hid ((S.q p++[f]).length≤8):=Lh (by rw[List.length_append];show _+1≤8;omega);have h9:=h.len;obtain⟨ao,ac,hlv⟩:=h.row.form;have HLv:=Lh hlv;have HH:=Lh h;generalize (S.q p).length=n at*;clear h hi0' hz0 hz1 hz2 hl hlv hpv;go_enter func103,ntmps103;go_wp2_with fail;refine HMy.out.mono ?_;rintro e w1 ⟨rfl,rfl⟩;go_wp2_with fail;refine HTo.out.mono ?_;rintro e w1 ⟨rfl,hb1⟩;have HB1:=Lh hb1;clear hb1;go_wp2_with fail;refine(HLn.out _ HB1.out).mono ?_;rintro e w2 ⟨rfl,rfl⟩;obtain⟨c0,c1,c2,cf⟩:=(H.out _ HB1.out).cells;have hb2:Below w1.heap.size w1 (w1.alloc (.cells #[.int .u16 p,.string f] 299)):=Ba _;have hk2:=heap_alloc_new w1 (.cells #[.int .u16 p,.string f] 299);have hb3:=bQ HB1.out hb2;have h2:=H.out _ hb3;have hrow:=h2.row;rw[HLv.out] at hrow c0;have hA:=Rw.app (t:=204) Rw.none_wt Tryz.underlying204 HI.out.1 HI.out.2.1 HI.out.2.2.1 HI.out.2.2.2 rfl (by omega) (by omega) hrow (m:=1) (cap:=1) (ys:=wt (p,f)) rfl (a:=some ⟨w1.heap.size,0,none⟩) (fun k u hu=>by
     refine⟨_,_,rfl, ?_⟩;unfold World.cell?;rw[hk2]
     simpa [wt] using hu) (by omega) (fun u hu=>by simp[wt] at hu;rcases hu with rfl|rfl<;>rfl)
    obtain⟨o2,k2,W,hr,hs2,hm2,hw2⟩:=hA;have hmW:Mod (fun k=>a.lv.ownBlock=some k) w W:=by rw[HLv.out];exact(Mod.of_below hb3 _).same hm2
    have hz3:=hb3.size;have hz2:=hm2.size;have hpost:Post w a (Ni.qSet S p (S.q p++[f])) (W.setCell ⟨a.rb,0,none⟩ (.slice o2 (a.L.length+1) k2)):=by
     refine layRow HH.out hmW (L:=a.L++[(p,f)]) (by rw[wtC_app,List.length_append];unfold wtC at hs2⊢;rw[List.flatMap_cons,List.flatMap_nil,List.append_nil];exact hs2) (fun k hk=> ?_) (fun x=> ?_) rfl rfl (fun y hy=> ?_) (fun x=> ?_)
     ·rcases hw2 with z|⟨k',z,z1,z2⟩
      ·rw[z] at hk;have h9:=(HH.out.lr k (by rw[HLv.out];exact hk)).2.1;exact⟨.inl (by rw[HLv.out];exact hk),by omega⟩
      ·rw[z] at hk;cases hk;exact⟨.inr (by omega),z2⟩
     ·unfold Ni.qSet;rw[qOf_app]
      show Ni.updQ S.q p (S.q p++[f]) x=_
      by_cases e:x=p
      ·subst e;rw[Ni.updQ_same,qOf_yes,HH.out.q]
      ·rw[Ni.updQ_other _ _ _ e,qOf_no _ (fun z=>e z.symm),HH.out.q,List.append_nil]
     ·rcases List.mem_append.1 hy with z|z
      ·exact HH.out.pt y z
      ·simp at z;subst z;exact⟨hbd,hfs⟩
     ·unfold Ni.qSet
      show(Ni.updQ S.q p (S.q p++[f]) x).length≤8
      by_cases e:x=p
      ·subst e;rw[Ni.updQ_same];exact HQ8.out
      ·rw[Ni.updQ_other _ _ _ e];exact HH.out.q8 x
    have hend:=HKept.out _ hpost HPb.out HL.out;have HRun:=Lh hr;have hne:(Value.slice ao a.L.length ac).ownBlock≠some a.rb:=fun e=>(HH.out.lr a.rb (by rw[HLv.out];exact e)).1 rfl
    have hh:W.heap[a.rb]? =some (.cells #[a.lv,a.sv,.int .i64 S.gone] 206 (0,0)):=(hm2.block _ (lQ h2.head) hne).trans h2.head;have d0:W.cell? ⟨a.rb,0,none⟩=some a.lv:=by unfold World.cell?;rw[hh];rfl
    have df:W.frozen? ⟨a.rb,0,none⟩=false:=by unfold World.frozen?;rw[hh];rfl
    rw[HLv.out] at d0;clear hpost hr hs2 hm2 hw2 hrow h2 hb2 hb3 hk2 hne hh hmW hz2 hz3;go_wp2_with (at_builtin;refine R11.wpList_append_run rfl _ _ _ rfl rfl rfl HRun.out ?_);go_ret3;exact hend
   ·have HLn:=Lh fun V (hV:Below w.heap.size w V)=>len (h.below hV) p
    have hl8:(8:Int)≤((S.q p).length:Int):=by omega
    have hln:8≤(S.q p).length:=by omega
    have HEn:=Lh fun W hW=>HGone.out W hW (.inr hln)
    clear h hpv hln HGone HKept;generalize (S.q p).length=n at*;go_enter func103,ntmps103;go_wp2_with fail;refine HMy.out.mono ?_;rintro e w1 ⟨rfl,rfl⟩;go_wp2_with fail;refine HTo.out.mono ?_;rintro e w1 ⟨rfl,hb1⟩;have HB1:=Lh hb1;obtain⟨c0,c1,c2,cf⟩:=(H.out _ hb1).cells;have hend:=HEn.out _ hb1;clear hb1;go_wp2_with fail;refine(HLn.out _ HB1.out).mono ?_;rintro e w2 ⟨rfl,rfl⟩;go_wp2;go_ret3;exact hend
end
end Rn
namespace Rn
section
variable {w:World} {a:RnAt} {S:Ni.NicS}
def PoP(w:World)(a:RnAt)(S:Ni.NicS)(p:Int)(e:Ending)(w':World):Prop:=e=.returned (.tuple #[.string (Ni.nextS S p),.bool (Ni.nextB S p)])∧Post w a (Ni.popS S p) w'
theorem pop(h:Rns w a S)(p:Int):Calls Tryz.prog 217 #[.pointer (some ⟨a.rb,0,none⟩),.int .u16 p] w (PoP w a S p):=by
 have HNx:=Lh (next h p);have hf:=find h p 0 (by omega);unfold fndV at hf;cases hi:fnd a.L p 0 with
 |none=>
  have hq:S.q p=[]:=by rw[h.q];exact List.eq_nil_of_length_eq_zero (Nat.le_zero.1 (fnd_none hi))
  have e1:Ni.nextS S p=ByteArray.empty:=by unfold Ni.nextS;rw[hq]
  have e2:Ni.nextB S p=false:=by unfold Ni.nextB;rw[hq]
  have HEnd:Hid (PoP w a S p (.returned (.tuple #[.string ByteArray.empty,.bool false])) w):=Lh ⟨by rw[e1,e2],by unfold Ni.popS;rw[hq];exact Post.refl h Br⟩;rw[e1,e2] at HNx;clear hf hi hq h e1 e2;generalize PoP w a S p=PQ at*;go_enter func217,ntmps217;go_wp2_with fail;refine HNx.out.mono ?_;rintro e w1 ⟨rfl,rfl⟩;go_wp2
  first
   |exact HEnd.out
   |(go_ret2;exact HEnd.out)
 |some i=>
  obtain⟨s,r,hx,hqs,hqd,hqo⟩:=qOf_del hi;have hq:S.q p=s::r:=by rw[h.q];exact hqs
  have e1:Ni.nextS S p=s:=by unfold Ni.nextS;rw[hq]
  have e2:Ni.nextB S p=true:=by unfold Ni.nextB;rw[hq]
  rw[e1,e2] at HNx;have HPq:Hid (∀W,Post w a (Ni.qSet S p r) W→PoP w a S p (.returned (.tuple #[.string s,.bool true])) W):=Lh fun W hW=>⟨by rw[e1,e2],by unfold Ni.popS;rw[hq];exact hW⟩
  rw[hi] at hf;have HF:=Lh hf;generalize PoP w a S p=PQ at*;clear e1 e2 hi hf;obtain⟨q,off,cap,hv,_,_⟩:=h.at' hx;have hl:=h.len;have hi0:=(List.getElem?_eq_some_iff.1 hx).1;obtain⟨i0,hi0',hz0,hz1,hz2⟩:=info_parts info_wt;have h1c:=wtC_one a.L;obtain⟨c0,c1,c2,cf⟩:=h.cells
  -- the two appends
  have hd:Below w.heap.size w w.drew:=Br.drew;have hrow:=(h.below hd).row;rw[hv] at hrow;have hA1:=Rw.app (W:=w.drew) (t:=204) Rw.none_wt Tryz.underlying204 hi0' hz0 hz1 hz2 rfl (by omega) (by omega) (SlV.nil w.drew 299 2) (m:=i) (cap:=cap) (ys:=(wtC a.L).take (i*2)) (by rw[List.length_take,wtC_len];omega) (by
   have:=Rw.at_part hrow rfl 0 i (by omega) (by omega);rw[Nat.zero_mul,List.drop_zero,Nat.sub_zero,Nat.add_zero] at this;exact this) (by omega) (fun u hu=>h1c u (List.mem_of_mem_take hu))
  obtain⟨o1,k1,W1,hr1,hs1,hm1,hw1⟩:=hA1;rw[Nat.zero_add] at hr1 hs1 hw1;rw[List.nil_append] at hs1;have hb1:Below w.drew.heap.size w.drew W1:=(hm1.mono fun k _ z=>(nomatch z):Mod (fun _=>False) w.drew W1).toBelow;have hrow1:=((h.below hd).below hb1).row;rw[hv] at hrow1;have hA2:=Rw.app (W:=W1) (t:=204) Rw.none_wt Tryz.underlying204 hi0' hz0 hz1 hz2 rfl (by omega) (by omega) hs1 (m:=a.L.length - (i+1)) (cap:=cap - (i+1)) (ys:=(wtC a.L).drop ((i+1)*2)) (by rw[List.length_drop,wtC_len];omega) (a:=if cap=i+1 then some ⟨q,off,none⟩ else some ⟨q,off+(i+1)*2,none⟩) (by
   by_cases hz:cap=i+1
   ·intro k u hu;rw[List.drop_eq_nil_of_le (by rw[wtC_len];have:=hrow1.ncap;omega)] at hu;simp at hu
   rw[if_neg hz];have:=Rw.at_part hrow1 rfl (i+1) a.L.length (by omega) (Nat.le_refl _);rw[List.take_of_length_le (by rw[List.length_drop,wtC_len];omega)] at this;exact this) (by omega) (fun u hu=>h1c u (List.mem_of_mem_drop hu))
  obtain⟨o2,k2,W2,hr2,hs2,hm2,hw2⟩:=hA2;have hi1:(i:Int)<a.L.length:=by omega
  have hw:IntKind.i64.wrap ((i:Int)+1)=((i+1:Nat):Int):=by rw[IntKind.wrap_i64];omega
  rw[hv] at c0;have hnc:=hrow.ncap;have hic:i≤cap:=by omega
  have hil:i≤a.L.length:=by omega
  have hic1:i+1≤cap:=by omega
  have hil1:i+1≤a.L.length:=by omega
  have ix0:(0:Int)≤(i:Int)+1:=by omega
  have in0:¬(i:Int)<0:=by omega
  have ix1:(i:Int)+1≤a.L.length:=by omega
  have HR:=Lh (And.intro hr1 hr2);have HCn:=Lh (And.intro hqd hqo);have HSs:=Lh (And.intro hs2 (And.intro hm2 (And.intro hw2 (And.intro hw1 hb1))));have HQ:=Lh hq;clear hqd hqo hqs hq hs1 hs2 hm1 hm2 hw1 hw2 hr1 hr2 hrow hrow1 hb1;have H:=Lh h;clear h hx;have H0:=Lh hv;clear hv;go_enter func217,ntmps217;go_wp2_with fail;refine HNx.out.mono ?_;rintro e w1 ⟨rfl,rfl⟩;go_wp2_with fail;refine HF.out.mono ?_;rintro e w1 ⟨rfl,rfl⟩;go_wp2;refine LB (fun V=>V.cell? ⟨a.rb,0,none⟩=some (.slice (some ⟨q,off,none⟩) a.L.length cap)) 18 c0 fun wd hwd hS=> ?_
  refine LT 0 hS ?_;refine LT 1 hS ?_;refine LT 2 hS ?_;refine LT 3 hS ?_;refine LT 4 hS ?_;refine LT 5 hS ?_;refine LT 6 hS ?_;refine LT 8 hS ?_;refine LT 9 hS ?_;refine LT 10 hS ?_;refine LT 11 hS ?_;refine LT 12 hS ?_;refine LT 13 hS ?_;refine LT 14 hS ?_;refine LU 7 fun K hK=> ?_
  refine Rw.step_run rfl _ _ 204 rfl rfl rfl (by rw[hwd];exact HR.out.1) ?_;have hS1:W1.cell? ⟨a.rb,0,none⟩=some (.slice (some ⟨q,off,none⟩) a.L.length cap):=by
   have:=HSs.out.2.2.2.2;rw[←hwd] at this;exact cQ this hS
  refine LV hK (fun _=>hS1) ?_;clear hK K;refine LU 15 fun K hK=> ?_
  refine Rw.step_run rfl _ _ 204 rfl rfl rfl HR.out.2 ?_;have hS2:W2.cell? ⟨a.rb,0,none⟩=some (.slice (some ⟨q,off,none⟩) a.L.length cap):=Ca.cellX HSs.out.2.1 hS1 fun e=>by
   rcases HSs.out.2.2.2.1 with z|⟨k,z,z1,z2⟩
   ·rw[z] at e;cases e
   ·rw[z] at e;cases e;have:=lQ H.out.head;have:w.drew.heap.size=w.heap.size:=rfl;omega
  refine LV hK (fun _=>hS2) ?_;clear hK K;refine LU 16 fun K hK=> ?_
  go_simp;refine LV hK (fun _=>hS2) ?_;clear hK K;refine LT 17 hS2 ?_;refine LU 18 fun K hK=> ?_
  have hne:∀k,a.rb=k→(Value.slice o1 i k1).ownBlock≠some k:=fun k hk e=>by
   rcases HSs.out.2.2.2.1 with z|⟨k',z,z1,z2⟩
   ·rw[z] at e;cases e
   ·rw[z] at e;cases e;have:=lQ H.out.head;have:w.drew.heap.size=w.heap.size:=rfl;omega
  have hfz:W2.frozen? ⟨a.rb,0,none⟩=false:=by
   have h1:=(HSs.out.2.1.block a.rb (by have:=lQ ((H.out.below hd).below HSs.out.2.2.2.2).head;exact this) (fun e=>hne _ rfl e)).trans ((H.out.below hd).below HSs.out.2.2.2.2).head;unfold World.frozen?;rw[h1];rfl
  go_simp;refine LV hK (fun e=>absurd rfl e) ?_;clear hK K;refine E_done (by kernel_rfl) ?_ _;clear hS hS1 hS2 hfz;have hend:Post w a (Ni.qSet S p r) (W2.setCell ⟨a.rb,0,none⟩ (.slice o2 (i+(a.L.length - (i+1))) k2)):=by
   have hbW:Below w.heap.size w W1:=bQ hd HSs.out.2.2.2.2;have hfr:∀k,k<w.heap.size→(Value.slice o1 i k1).ownBlock≠some k:=fun k hk e=>by
    rcases HSs.out.2.2.2.1 with z|⟨k',z,z1,z2⟩
    ·rw[z] at e;cases e
    ·rw[z] at e;cases e;have:w.drew.heap.size=w.heap.size:=rfl;omega
   have hbW2:Below w.heap.size w W2:=Mod.below hbW HSs.out.2.1 hbW.size fun k _ e=>by
    rcases Nat.lt_or_ge k w.heap.size with z|z
    ·exact absurd e (hfr k z)
    ·exact z
   have hlen2:i+(a.L.length - (i+1))=(a.L.take i++a.L.drop (i+1)).length:=by rw[List.length_append,List.length_take,List.length_drop];omega
   have hcs:(wtC a.L).take (i*2)++(wtC a.L).drop ((i+1)*2)=wtC (a.L.take i++a.L.drop (i+1)):=by rw[wtC_app,wtC_take,wtC_drop]
   have hs2:SlV W2 299 2 (.slice o2 (i+(a.L.length - (i+1))) k2) (a.L.take i++a.L.drop (i+1)).length (wtC (a.L.take i++a.L.drop (i+1))):=by
    have h1:=HSs.out.1;rw[hcs] at h1;rw[←hlen2];exact h1
   refine layRow H.out (Mod.of_below hbW2 _) hs2 (fun k hk=> ?_) (fun x=> ?_) rfl rfl (fun y hy=> ?_) (fun x=> ?_)
   ·have hk:(Value.slice o2 (i+(a.L.length - (i+1))) k2).ownBlock=some k:=hk;rcases HSs.out.2.2.1 with z|⟨k',z,z1,z2⟩
    ·rw[z] at hk;rcases HSs.out.2.2.2.1 with y|⟨k',y,y1,y2⟩
     ·rw[y] at hk;cases hk
     ·rw[y] at hk;cases hk;have:w.drew.heap.size=w.heap.size:=rfl;have:=HSs.out.2.1.size;exact⟨.inr (by omega),by omega⟩
    ·rw[z] at hk;cases hk;have:=hbW.size;exact⟨.inr (by omega),z2⟩
   ·show Ni.updQ S.q p r x=_
    by_cases e:x=p
    ·rw[e,Ni.updQ_same,HCn.out.1]
    ·rw[Ni.updQ_other _ _ _ e,HCn.out.2 x e,H.out.q]
   ·rcases List.mem_append.1 hy with z|z
    ·exact H.out.pt y (List.mem_of_mem_take z)
    ·exact H.out.pt y (List.mem_of_mem_drop z)
   ·show(Ni.updQ S.q p r x).length≤8
    by_cases e:x=p
    ·have h8:=H.out.q8 p;rw[HQ.out,List.length_cons] at h8;rw[e,Ni.updQ_same];omega
    ·rw[Ni.updQ_other _ _ _ e];exact H.out.q8 x
  have HEnd:=Lh (HPq.out _ hend);clear hend;go_wp2
  all_goals
   first
    |exact HEnd.out
    |(go_ret2;exact HEnd.out)
end
end Rn
structure RkAt where
 kb:Nat
 c:RcAt
 n:RnAt
 bv:Value
 rows:List Value
 tag:Nat→Nat
def RkAt.wf(a:RkAt)(k:Nat):Prop:=a.tag k≠0∧a.tag k≠5
structure Rkl(w:World)(a:RkAt)(K:Kn):Prop where
 head:w.heap[a.kb]? =some (.cells #[.pointer (some ⟨a.c.rb,0,none⟩),.pointer (some ⟨a.n.rb,0,none⟩),a.bv,.int .u32 K.now] 125 (0,0))
 hx:RwV w 1 a.c.hv K.hx.length (K.hx.map (Value.int .u32))
 caps:Rcs w a.c K.hp K.g
 nic:Rns w a.n K.N
 len:a.rows.length=K.B.length
 outer:SlV w 35 1 a.bv a.rows.length a.rows
 inner:∀(i:Nat) (v:Value) (l:List ByteArray),a.rows[i]? =some v→K.B[i]? =some l→SlV w 9 1 v l.length (l.map .string)
 bl:K.B.length≤16∧∀(i:Nat) (l:List ByteArray),K.B[i]? =some l→l.length≤1024
 ok:K.Ok
 t1:a.tag a.kb=1
 t2:∀k,a.c.wf k∨a.c.rf k→a.tag k=2
 t3:∀k,a.n.wf k→a.tag k=3
 t5:∀k,((K.hx.length≠0∧a.c.hv.ownBlock=some k)∨a.bv.ownBlock=some k∨∃v,v∈a.rows∧v.ownBlock=some k)→a.tag k=5
 lt:∀k,a.tag k≠0→k<w.heap.size
namespace Rkl
variable {w w':World} {a a':RkAt} {K K':Kn}
theorem keep{F:Nat→Prop}(h:Rkl w a K)(hm:Mod F w w')(hF:∀k,a.tag k≠0→¬F k):Rkl w' a K:=
 {
  h with
  head:=(hm.block _ (lQ h.head) (hF _ (by rw[h.t1];decide))).trans h.head
  hx:=h.hx.mod hm fun k hn hk=>hF k (by rw[h.t5 k (.inl ⟨hn,hk⟩)];decide)
  caps:=h.caps.mod hm fun k hk=>hF k (by rw[h.t2 k hk];decide)
  nic:=h.nic.mod hm fun k hk=>hF k (by rw[h.t3 k hk];decide)
  outer:=h.outer.mod hm fun k hk=>hF k (by rw[h.t5 k (.inr (.inl hk))];decide)
  inner:=fun i v l hv hl=>(h.inner i v l hv hl).mod hm fun k hk=>hF k (by rw[h.t5 k (.inr (.inr ⟨v,List.mem_of_getElem? hv,hk⟩))];decide)
  lt:=fun k hk=>Nat.lt_of_lt_of_le (h.lt k hk) hm.size}
theorem below(h:Rkl w a K)(hb:Below w.heap.size w w'):Rkl w' a K:=h.keep (Mod.of_below hb (fun _=>False)) fun _ _ q=>q
theorem cells(h:Rkl w a K):w.cell? ⟨a.kb,0,none⟩=some (.pointer (some ⟨a.c.rb,0,none⟩))∧w.cell? ⟨a.kb,1,none⟩=some (.pointer (some ⟨a.n.rb,0,none⟩))∧w.cell? ⟨a.kb,2,none⟩=some a.bv∧w.cell? ⟨a.kb,3,none⟩=some (.int .u32 K.now):=by
 refine⟨?_, ?_, ?_, ?_⟩
 all_goals
  unfold World.cell?;rw[h.head];rfl
theorem free(h:Rkl w a K)(i:Nat):w.frozen? ⟨a.kb,i,none⟩=false:=by
 unfold World.frozen?;rw[h.head]
 simp
theorem row_at(h:Rkl w a K){i:Nat}{l:List ByteArray}(hl:K.B[i]? =some l):∃g off cap o rc,a.bv=.slice (some ⟨g,off,none⟩) K.B.length cap∧w.cell? ⟨g,off+i,none⟩=some (.slice o l.length rc)∧a.rows[i]? =some (.slice o l.length rc)∧SlV w 9 1 (.slice o l.length rc) l.length (l.map .string):=by
 have hi:=(List.getElem?_eq_some_iff.1 hl).1;have hir:i<a.rows.length:=by rw[h.len];exact hi
 have hr:a.rows[i]? =some a.rows[i]:=Zg hir;have hin:=h.inner i _ l hr hl;obtain⟨o,rc,he⟩:=hin.form;have ho:=h.outer;rcases ho.2 with⟨h0,_⟩|⟨g,off,cap,cur,hv,_⟩
 ·rw[h.len] at h0;omega
 ·rw[hv] at ho;refine⟨g,off,cap,o,rc,by rw[hv,h.len], ?_,by rw[hr,he],by rw[←he];exact hin⟩;rw[ho.cell i (by rw[h.len];omega),hr,he]
end Rkl
structure RkStep(w w':World)(a:RkAt)(K:Kn)(a':RkAt)(K':Kn):Prop where
 k:Rkl w' a' K'
 same:a'.kb=a.kb∧a'.c.rb=a.c.rb∧a'.n.rb=a.n.rb
 mod:Mod a.wf w w'
 tag:∀k,k<w.heap.size→a'.tag k=a.tag k
namespace RkStep
variable {w w' w'':World} {a a' a'':RkAt} {K K' K'':Kn}
theorem wfoot(s:RkStep w w' a K a' K')(k:Nat)(hk:a'.wf k):a.wf k∨w.heap.size≤k:=by
 rcases Nat.lt_or_ge k w.heap.size with g|g
 ·exact .inl (by unfold RkAt.wf;rw[←s.tag k g];exact hk)
 ·exact .inr g
theorem setCaps(h:Rkl w a K){c:RcAt}{G:Int→Option Gr}(hc:Rcs w' c K.hp G)(hr:c.rb=a.c.rb)(hv:c.hv=a.c.hv)(hf:∀k,c.wf k∨c.rf k→(a.c.wf k∨a.c.rf k)∨w.heap.size≤k∧k<w'.heap.size)(hm:Mod (fun k=>a.c.wf k∨a.c.rf k) w w'):RkStep w w' a K {a with c:=c,tag:=KStep.grow w w' a.tag 2} {K with g:=G}:=by
 have ne:∀k,a.tag k≠2→¬(a.c.wf k∨a.c.rf k):=fun k hk e=>hk (h.t2 k e)
 have old:∀k,a.tag k≠0→KStep.grow w w' a.tag 2 k=a.tag k:=fun k hk=>KStep.grow_old (h.lt k hk)
 have hR:Rkl w' {a with c:=c,tag:=KStep.grow w w' a.tag 2} {K with g:=G}:=
     {
      head:=by rw[hr];exact(hm.block _ (lQ h.head) (ne _ (by rw[h.t1];decide))).trans h.head
      hx:=by rw[hv];exact h.hx.mod hm fun k hn hk=>ne k (by rw[h.t5 k (.inl ⟨hn,hk⟩)];decide)
      caps:=hc
      nic:=h.nic.mod hm fun k hk=>ne k (by rw[h.t3 k hk];decide)
      len:=h.len
      outer:=h.outer.mod hm fun k hk=>ne k (by rw[h.t5 k (.inr (.inl hk))];decide)
      inner:=fun i v l hv hl=>(h.inner i v l hv hl).mod hm fun k hk=>ne k (by rw[h.t5 k (.inr (.inr ⟨v,List.mem_of_getElem? hv,hk⟩))];decide)
      bl:=h.bl
      ok:=⟨h.ok.n0,h.ok.n1,h.ok.bs,h.ok.q,h.ok.hl,h.ok.g0⟩
      t1:=by show KStep.grow w w' a.tag 2 a.kb=1;rw[old _ (by rw[h.t1];decide)];exact h.t1
      t2:=fun k hk=>by
       show KStep.grow w w' a.tag 2 k=2
       rcases hf k hk with z|⟨z1,z2⟩
       ·rw[old _ (by rw[h.t2 k z];decide)];exact h.t2 k z
       ·unfold KStep.grow;rw[if_neg (by omega),if_pos z2]
      t3:=fun k hk=>by show KStep.grow w w' a.tag 2 k=3;rw[old _ (by rw[h.t3 k hk];decide)];exact h.t3 k hk
      t5:=fun k hk=>by
       have hk':(K.hx.length≠0∧a.c.hv.ownBlock=some k)∨a.bv.ownBlock=some k∨∃v,v∈a.rows∧v.ownBlock=some k:=by rw[←hv];exact hk
       show KStep.grow w w' a.tag 2 k=5
       rw[old _ (by rw[h.t5 k hk'];decide)];exact h.t5 k hk'
      lt:=fun k hk=>by
       have hk:KStep.grow w w' a.tag 2 k≠0:=hk;unfold KStep.grow at hk;have:=hm.size
       split at hk
       ·omega
       ·split at hk
        ·assumption
        ·exact absurd rfl hk}
 refine⟨hR,⟨rfl,hr,rfl⟩,hm.mono fun k _ e=>⟨by rw[h.t2 k e];decide,by rw[h.t2 k e];decide⟩,fun k hk=>KStep.grow_old hk⟩
theorem setNic(h:Rkl w a K){N:Ni.NicS}(hp:Rn.Post w a.n N w')(hq:∀x s,s∈N.q x→s.size≤128)(hg:0≤N.gone):∃a',RkStep w w' a K a' {K with N:=N}:=by
 obtain⟨n,hn,hr,hf,hm⟩:=hp;have ne:∀k,a.tag k≠3→¬a.n.wf k:=fun k hk e=>hk (h.t3 k e)
 have old:∀k,a.tag k≠0→KStep.grow w w' a.tag 3 k=a.tag k:=fun k hk=>KStep.grow_old (h.lt k hk)
 have hR:Rkl w' {a with n:=n,tag:=KStep.grow w w' a.tag 3} {K with N:=N}:=
     {
      head:=by rw[hr];exact(hm.block _ (lQ h.head) (ne _ (by rw[h.t1];decide))).trans h.head
      hx:=h.hx.mod hm fun k hn hk=>ne k (by rw[h.t5 k (.inl ⟨hn,hk⟩)];decide)
      caps:=h.caps.mod hm fun k hk=>ne k (by rw[h.t2 k hk];decide)
      nic:=hn
      len:=h.len
      outer:=h.outer.mod hm fun k hk=>ne k (by rw[h.t5 k (.inr (.inl hk))];decide)
      inner:=fun i v l hv hl=>(h.inner i v l hv hl).mod hm fun k hk=>ne k (by rw[h.t5 k (.inr (.inr ⟨v,List.mem_of_getElem? hv,hk⟩))];decide)
      bl:=h.bl
      ok:=⟨h.ok.n0,h.ok.n1,h.ok.bs,hq,h.ok.hl,hg⟩
      t1:=by show KStep.grow w w' a.tag 3 a.kb=1;rw[old _ (by rw[h.t1];decide)];exact h.t1
      t2:=fun k hk=>by show KStep.grow w w' a.tag 3 k=2;rw[old _ (by rw[h.t2 k hk];decide)];exact h.t2 k hk
      t3:=fun k hk=>by
       show KStep.grow w w' a.tag 3 k=3
       rcases hf k hk with z|⟨z1,z2⟩
       ·rw[old _ (by rw[h.t3 k z];decide)];exact h.t3 k z
       ·unfold KStep.grow;rw[if_neg (by omega),if_pos z2]
      t5:=fun k hk=>by show KStep.grow w w' a.tag 3 k=5;rw[old _ (by rw[h.t5 k hk];decide)];exact h.t5 k hk
      lt:=fun k hk=>by
       have hk:KStep.grow w w' a.tag 3 k≠0:=hk;unfold KStep.grow at hk;have:=hm.size
       split at hk
       ·omega
       ·split at hk
        ·assumption
        ·exact absurd rfl hk}
 refine⟨_,hR,⟨rfl,rfl,hr⟩,hm.mono fun k _ e=>⟨by rw[h.t3 k e];decide,by rw[h.t3 k e];decide⟩,fun k hk=>KStep.grow_old hk⟩
theorem setRows(h:Rkl w a K){W:World}(hb:Below w.heap.size w W){bv:Value}{rows:List Value}{B:List (List ByteArray)}(hl:rows.length=B.length)(ho:SlV W 35 1 bv rows.length rows)(hi:∀(i:Nat) (v:Value) (l:List ByteArray),rows[i]? =some v→B[i]? =some l→SlV W 9 1 v l.length (l.map .string))(hbl:B.length≤16∧∀(i:Nat) (l:List ByteArray),B[i]? =some l→l.length≤1024)(hbs:∀(i:Nat) (l:List ByteArray),B[i]? =some l→∀s,s∈l→s.size=64)
  (hf:∀k,(bv.ownBlock=some k∨∃v,v∈rows∧v.ownBlock=some k)→(a.bv.ownBlock=some k∨∃v,v∈a.rows∧v.ownBlock=some k)∨w.heap.size≤k∧k<W.heap.size):∃a',RkStep w (W.setCell ⟨a.kb,2,none⟩ bv) a K a' {K with B:=B}:=by
 have h1:=h.below hb;have hm:Mod (fun k=>k=a.kb) W (W.setCell ⟨a.kb,2,none⟩ bv):=Mod.setCell (F:=fun k=>k=a.kb) (Mod.refl _ _) ⟨a.kb,2,none⟩ (.inl rfl) _;have hz:=hm.size;have hzb:=hb.size;have hk1:=lQ h.head;have ne:∀k,a.tag k≠1→¬k=a.kb:=fun k hk e=>hk (e▸h.t1)
 have nf:∀k,(bv.ownBlock=some k∨∃v,v∈rows∧v.ownBlock=some k)→¬k=a.kb:=fun k hk=>by
  rcases hf k hk with z|⟨z1,z2⟩
  ·exact ne k (by rw[h.t5 k (.inr z)];decide)
  ·omega
 have old:∀k,a.tag k≠0→KStep.grow w (W.setCell ⟨a.kb,2,none⟩ bv) a.tag 5 k=a.tag k:=fun k hk=>KStep.grow_old (h.lt k hk)
 have hR:Rkl (W.setCell ⟨a.kb,2,none⟩ bv) {a with bv:=bv,rows:=rows,tag:=KStep.grow w (W.setCell ⟨a.kb,2,none⟩ bv) a.tag 5} {K with B:=B}:=
     {
      head:=heap_setCell_same W a.kb 2 _ _ bv h1.head
      hx:=h1.hx.mod hm fun k hn hk=>ne k (by rw[h.t5 k (.inl ⟨hn,hk⟩)];decide)
      caps:=h1.caps.mod hm fun k hk=>ne k (by rw[h.t2 k hk];decide)
      nic:=h1.nic.mod hm fun k hk=>ne k (by rw[h.t3 k hk];decide)
      len:=hl
      outer:=ho.mod hm fun k hk=>nf k (.inl hk)
      inner:=fun i v l hv hl=>(hi i v l hv hl).mod hm fun k hk=>nf k (.inr ⟨v,List.mem_of_getElem? hv,hk⟩)
      bl:=hbl
      ok:=⟨h.ok.n0,h.ok.n1,hbs,h.ok.q,h.ok.hl,h.ok.g0⟩
      t1:=by show KStep.grow w _ a.tag 5 a.kb=1;rw[old _ (by rw[h.t1];decide)];exact h.t1
      t2:=fun k hk=>by show KStep.grow w _ a.tag 5 k=2;rw[old _ (by rw[h.t2 k hk];decide)];exact h.t2 k hk
      t3:=fun k hk=>by show KStep.grow w _ a.tag 5 k=3;rw[old _ (by rw[h.t3 k hk];decide)];exact h.t3 k hk
      t5:=fun k hk=>by
       show KStep.grow w _ a.tag 5 k=5
       rcases hk with z|z
       ·rw[old _ (by rw[h.t5 k (.inl z)];decide)];exact h.t5 k (.inl z)
       ·rcases hf k z with y|⟨y1,y2⟩
        ·rw[old _ (by rw[h.t5 k (.inr y)];decide)];exact h.t5 k (.inr y)
        ·unfold KStep.grow;rw[if_neg (by omega),if_pos (by omega)]
      lt:=fun k hk=>by
       have hk:KStep.grow w _ a.tag 5 k≠0:=hk;unfold KStep.grow at hk
       split at hk
       ·omega
       ·split at hk
        ·assumption
        ·exact absurd rfl hk}
 refine⟨_,hR,⟨rfl,rfl,rfl⟩,(Mod.of_below hb _).same (hm.mono fun k _ e=>by subst e;exact⟨by rw[h.t1];decide,by rw[h.t1];decide⟩),fun k hk=>KStep.grow_old hk⟩
end RkStep
open Go.RowKit Word
section
variable {P:Program} {ops:Array Oper} {Q:Exit→Act→World→Prop} {md:Region.Mode} {S T:World→Prop}
theorem H_one{l:List Oper}{i:Nat}{o:Oper}{fuel:Nat}{listed:Array Bool}{a:Act}{w:World}(hr:Region.ready md l.toArray listed=[i])(ho:l[i]? =some o)
  (h:∀K':Act→World→Prop,Shut (∀a w,S w→(S w→wpAnyH P md l.toArray Q S fuel (listed.setIfInBounds i true) a w)→K' a w)→if Region.wanted o (yielded l.toArray a.tmps)=true then Oper.wp P o a w K' Q else K' (a.put o.dst undef) w):
  wpAnyH P md l.toArray Q S (fuel+1) listed a w:=
 wpAnyH_ready hr (by simp) (AllReadyH.cons (by rw[List.getElem?_toArray];exact ho) h AllReadyH.nil)
theorem H_take{l:List Oper}{i:Nat}{oi:Oper}{v:Value}{fuel:Nat}{listed:Array Bool}{a:Act}{w:World}(hi:l[i]? =some oi)
  (hs:Region.noSelect l.toArray=true) (hf:Region.free md l.toArray listed i=true) (hr:(Region.ready md l.toArray listed).contains i=true)
  (hQ:∀c a w,Q (.panic c) (a.put oi.dst v) w→Q (.panic c) a w) (hy:YieldsIf P l.toArray S oi v a) (hS:S w)
  (h:wpAnyH P md l.toArray Q S fuel (listed.setIfInBounds i true) (a.put oi.dst v) w):wpAnyH P md l.toArray Q S (fuel+1) listed a w:=
 wpAnyH_take (by rw[List.getElem?_toArray];exact hi) hs hf hr hQ hy hS h
end
structure KE(w:World)(a:KAt)(K:Kn)(e:EAt)(E:En):Prop where
 kn:Knl w a K
 en:Env w e E
 apart:∀x,e.foot E.A x→a.tag x=0
structure JStep(W w:World)(a0:KAt)(e0:EAt)(A0:List Pg)(a:KAt)(K:Kn)(e:EAt)(E:En):Prop where
 j:KE w a K e E
 same:(a.kb=a0.kb∧a.c.cb=a0.c.cb∧a.nb=a0.nb)∧e.eb=e0.eb∧e.sb=e0.sb∧e.mb=e0.mb∧e.cb=e0.cb
 mod:Mod (fun x=>a0.wf x∨e0.foot A0 x) W w
 tag:∀k,k<W.heap.size→a.tag k=a0.tag k
 foot:∀k,e.foot E.A k→e0.foot A0 k∨W.heap.size≤k
namespace KE
variable {w w':World} {a a':KAt} {K K':Kn} {e e':EAt} {E E':En}
theorem below(h:KE w a K e E)(hb:Below w.heap.size w w'):KE w' a K e E:=⟨h.kn.below hb,h.en.below hb,h.apart⟩
theorem left(h:KE w a K e E)(s:KStep w w' a K a' K'):KE w' a' K' e E:=
 ⟨s.k,h.en.keep s.mod fun x hx g=>g.1 (h.apart x hx),fun x hx=>(s.tag x (h.en.lt x hx)).trans (h.apart x hx)⟩
theorem right(h:KE w a K e E)(s:EStep w w' e E e' E'):KE w' a K e' E':=
 ⟨h.kn.keep s.mod fun x hx g=>hx (h.apart x g),s.env,fun x hx=>by
  rcases s.foot x hx with g|g
  ·exact h.apart x g
  ·exact Decidable.byContradiction fun q=>absurd (h.kn.lt x q) (by omega)⟩
end KE
namespace JStep
variable {W w w':World} {a0 a a':KAt} {K K':Kn} {e0 e e':EAt} {A0:List Pg} {E E':En}
theorem refl(h:KE w a K e E):JStep w w a e E.A a K e E:=⟨h,⟨⟨rfl,rfl,rfl⟩,rfl,rfl,rfl,rfl⟩,Mod.refl _ _,fun _ _=>rfl,fun _ g=>.inl g⟩
theorem below(h:JStep W w a0 e0 A0 a K e E)(hb:Below w.heap.size w w'):JStep W w' a0 e0 A0 a K e E:=
 {h with j:=h.j.below hb,mod:=h.mod.trans (Mod.of_below hb (fun _=>False)) fun _ _ g=>g.elim}
theorem left(h:JStep W w a0 e0 A0 a K e E)(s:KStep w w' a K a' K'):JStep W w' a0 e0 A0 a' K' e E where
 j:=h.j.left s
 same:=⟨⟨s.same.1.trans h.same.1.1,s.same.2.1.trans h.same.1.2.1,s.same.2.2.trans h.same.1.2.2⟩,h.same.2⟩
 mod:=h.mod.trans s.mod fun i _ g=>by
  rcases Nat.lt_or_ge i W.heap.size with q|q
  ·exact .inl (.inl ⟨by rw[←h.tag i q];exact g.1,by rw[←h.tag i q];exact g.2⟩)
  ·exact .inr q
 tag:=fun k hk=>(s.tag k (Nat.lt_of_lt_of_le hk h.mod.size)).trans (h.tag k hk)
 foot:=h.foot
theorem right(h:JStep W w a0 e0 A0 a K e E)(s:EStep w w' e E e' E'):JStep W w' a0 e0 A0 a K e' E' where
 j:=h.j.right s
 same:=⟨h.same.1,s.same.1.trans h.same.2.1,s.same.2.1.trans h.same.2.2.1,s.same.2.2.1.trans h.same.2.2.2.1,s.same.2.2.2.trans h.same.2.2.2.2⟩
 mod:=h.mod.trans s.mod fun i _ g=>(h.foot i g).imp .inr id
 tag:=h.tag
 foot:=fun k hk=>(s.foot k hk).elim (h.foot k) fun q=>.inr (Nat.le_trans h.mod.size q)
theorem turn{F:Nat→Prop}(h:JStep W w a0 e0 A0 a K e E)(hm:Mod F w w')(hF:∀k,F k→a.tag k=0∧¬e.foot E.A k∧W.heap.size≤k):JStep W w' a0 e0 A0 a K e E where
 j:=⟨h.j.kn.keep hm fun x hx g=>hx (hF x g).1,h.j.en.keep hm fun x hx g=>(hF x g).2.1 hx,h.j.apart⟩
 same:=h.same
 mod:=h.mod.trans hm fun i _ g=>.inr (hF i g).2.2
 tag:=h.tag
 foot:=h.foot
end JStep
theorem KEn.ke{w0 w:World}{a:KAt}{K:Kn}{e:EAt}{E:En}(h:KEn w0 w a K e E):KE w a K e E:=⟨h.kn,h.en,h.apart⟩
theorem KEn.step{w0 w w':World}{a a':KAt}{K K':Kn}{e e':EAt}{E E':En}(h:KEn w0 w a K e E)(s:JStep w w' a e E.A a' K' e' E')(hn:E'.num=E.num):KEn w0 w' a' K' e' E' where
 kn:=s.j.kn
 en:=s.j.en
 apart:=s.j.apart
 bel:=Mod.below h.bel s.mod h.bel.size fun i _ g=>g.elim (fun q=>h.k0 i q.1) (h.e0 i)
 k0:=fun x hx=>by
  rcases Nat.lt_or_ge x w.heap.size with q|q
  ·exact h.k0 x (by rw[←s.tag x q];exact hx)
  ·exact Nat.le_trans h.bel.size q
 e0:=fun x hx=>(s.foot x hx).elim (h.e0 x) fun g=>Nat.le_trans h.bel.size g
 num:=by rw[hn];exact h.num
structure Evt where
 kind:Int
 env:Int
 text:ByteArray
 num:Int
 seen:Bool
def Evt.none:Evt:=⟨0,0,ByteArray.empty,0,false⟩
structure Tk(W w:World)(tb:Nat)(a0:KAt)(e0:EAt)(A0:List Pg)(a:KAt)(K:Kn)(e:EAt)(E:En)(x:Evt):Prop where
 s:JStep W w a0 e0 A0 a K e E
 blk:w.heap[tb]? =some (.cells #[.pointer (some ⟨a.kb,0,none⟩),.pointer (some ⟨e.eb,0,none⟩),.int .u8 x.kind,.int .i64 x.env,.string x.text,.int .u32 x.num,.bool x.seen] 170 (0,0))
 ta:a.tag tb=0
 te:¬e.foot E.A tb
 t0:W.heap.size≤tb
 n1:1≤E.num∧E.num≤8
theorem Tk.i64{W w:World}{tb:Nat}{a0 a:KAt}{K:Kn}{e0 e:EAt}{A0:List Pg}{E:En}{x:Evt}(h:Tk W w tb a0 e0 A0 a K e E x):I64 E.num:=⟨by have:=h.n1;omega,by have:=h.n1;omega⟩
namespace Tk
variable {W w w':World} {tb:Nat} {a0 a a':KAt} {K K':Kn} {e0 e e':EAt} {A0:List Pg} {E E':En} {x:Evt}
theorem below(h:Tk W w tb a0 e0 A0 a K e E x)(hb:Below w.heap.size w w'):Tk W w' tb a0 e0 A0 a K e E x:=
 {h with s:=h.s.below hb,blk:=(hb.block _ (lQ h.blk)).trans h.blk}
theorem left(h:Tk W w tb a0 e0 A0 a K e E x)(s:KStep w w' a K a' K'):Tk W w' tb a0 e0 A0 a' K' e E x where
 s:=h.s.left s
 blk:=(s.mod.block _ (lQ h.blk) fun g=>g.1 h.ta).trans (by rw[s.same.1];exact h.blk)
 ta:=(s.tag _ (lQ h.blk)).trans h.ta
 te:=h.te
 t0:=h.t0
 n1:=h.n1
theorem right(h:Tk W w tb a0 e0 A0 a K e E x)(s:EStep w w' e E e' E')(hn:E'.num=E.num):Tk W w' tb a0 e0 A0 a K e' E' x where
 s:=h.s.right s
 blk:=(s.mod.block _ (lQ h.blk) h.te).trans (by rw[s.same.1];exact h.blk)
 ta:=h.ta
 te:=fun g=>(s.foot _ g).elim h.te fun q=>by have:=lQ h.blk;omega
 t0:=h.t0
 n1:=by rw[hn];exact h.n1
theorem cell(h:Tk W w tb a0 e0 A0 a K e E x)(i:Nat)(v:Value)(hi: #[Value.pointer (some ⟨a.kb,0,Option.none⟩),.pointer (some ⟨e.eb,0,Option.none⟩),.int .u8 x.kind,.int .i64 x.env,.string x.text,.int .u32 x.num,.bool x.seen][i]? =some v):w.cell? ⟨tb,i,Option.none⟩=some v:=by
 unfold World.cell?;rw[h.blk];exact hi
theorem cells(h:Tk W w tb a0 e0 A0 a K e E x):w.cell? ⟨tb,0,Option.none⟩=some (.pointer (some ⟨a.kb,0,Option.none⟩))∧w.cell? ⟨tb,1,Option.none⟩=some (.pointer (some ⟨e.eb,0,Option.none⟩)):=
 ⟨h.cell 0 _ rfl,h.cell 1 _ rfl⟩
theorem all(h:Tk W w tb a0 e0 A0 a K e E x):w.cell? ⟨tb,0,Option.none⟩=some (.pointer (some ⟨a.kb,0,Option.none⟩))∧w.cell? ⟨tb,1,Option.none⟩=some (.pointer (some ⟨e.eb,0,Option.none⟩))∧w.cell? ⟨a.kb,2,Option.none⟩=some (.pointer (some ⟨a.c.cb,0,Option.none⟩))∧w.cell? ⟨a.kb,3,Option.none⟩=some (.pointer (some ⟨a.nb,0,Option.none⟩))∧w.cell? ⟨a.kb,5,Option.none⟩=some (.int .u32 K.now):=
 ⟨h.cell 0 _ rfl,h.cell 1 _ rfl,h.s.j.kn.cell 2 _ rfl,h.s.j.kn.cell 3 _ rfl,h.s.j.kn.cell 5 _ rfl⟩
theorem free(h:Tk W w tb a0 e0 A0 a K e E x)(i:Nat):w.frozen? ⟨tb,i,Option.none⟩=false:=by
 unfold World.frozen?;rw[h.blk]
 simp
def put(w:World)(tb:Nat)(y:Evt):World:=((((w.setCell ⟨tb,2,Option.none⟩ (.int .u8 y.kind)).setCell ⟨tb,3,Option.none⟩ (.int .i64 y.env)).setCell ⟨tb,4,Option.none⟩ (.string y.text)).setCell ⟨tb,5,Option.none⟩ (.int .u32 y.num)).setCell ⟨tb,6,Option.none⟩ (.bool y.seen)
theorem show'(h:Tk W w tb a0 e0 A0 a K e E x)(y:Evt):Tk W (put w tb y) tb a0 e0 A0 a K e E y:=by
 have hm:Mod (fun i=>i=tb) w (put w tb y):=Mod.setCell (F:=fun i=>i=tb) (Mod.setCell (F:=fun i=>i=tb) (Mod.setCell (F:=fun i=>i=tb) (Mod.setCell (F:=fun i=>i=tb) (Mod.setCell (F:=fun i=>i=tb) (Mod.refl _ _) ⟨tb,2,Option.none⟩ (.inl rfl) _) ⟨tb,3,Option.none⟩ (.inl rfl) _) ⟨tb,4,Option.none⟩ (.inl rfl) _) ⟨tb,5,Option.none⟩ (.inl rfl) _) ⟨tb,6,Option.none⟩ (.inl rfl) _;have b1:=heap_setCell_same w tb 2 _ _ (.int .u8 y.kind) h.blk;have b2:=heap_setCell_same _ tb 3 _ _ (.int .i64 y.env) b1;have b3:=heap_setCell_same _ tb 4 _ _ (.string y.text) b2;have b4:=heap_setCell_same _ tb 5 _ _ (.int .u32 y.num) b3;have b5:=heap_setCell_same _ tb 6 _ _ (.bool y.seen) b4;exact⟨h.s.turn hm fun k hk=>by subst hk;exact⟨h.ta,h.te,h.t0⟩,b5,h.ta,h.te,h.t0,h.n1⟩
end Tk
def evOf(x:Evt)(c:Co):Evt:=if c.ev=0 then x else⟨c.ev,c.E.num,c.s,0,true⟩
def CallPost(W:World)(tb:Nat)(a0:KAt)(e0:EAt)(A0:List Pg)(x:Evt)(f:Nat→Co)(e:Ending)(w':World):Prop:=
 ∃blk a' e',e=.returned (.tuple #[.int .u32 (f blk).v,.int .u32 (f blk).y])∧Tk W w' tb a0 e0 A0 a' (f blk).K e' (f blk).E (evOf x (f blk))
theorem arg_bd{w:World}{a:EAt}{E:En}(h:Env w a E)(n:Int):0≤E.arg n∧E.arg n≤4294967295:=by
 unfold En.arg
 split
 ·exact Cp.rg_bd h.cp.regs n
 ·omega
theorem fin_no{W w:World}{tb:Nat}{a0 a:KAt}{K:Kn}{e0 e:EAt}{A0:List Pg}{E:En}{x:Evt}(h:Tk W w tb a0 e0 A0 a K e E x){f:Nat→Co}(y:Int)(hf:∀b,f b=Co.no K E y):CallPost W tb a0 e0 A0 x f (.returned (.tuple #[.int .u32 0,.int .u32 y])) w:=
 ⟨0,a,e,by rw[hf];rfl,by rw[hf];exact h⟩
theorem fin_of{W V:World}{tb:Nat}{a0 a':KAt}{e0 e':EAt}{A0:List Pg}{x:Evt}{f:Nat→Co}{c:Co}(b:Nat)(hf:f b=c)(h:Tk W V tb a0 e0 A0 a' c.K e' c.E (evOf x c)):CallPost W tb a0 e0 A0 x f (.returned (.tuple #[.int .u32 c.v,.int .u32 c.y])) V:=
 ⟨b,a',e',by rw[hf],by rw[hf];exact h⟩
theorem page_num(E:En)(v:Int)(b:Nat):(E.page v b).num=E.num:=by unfold En.page;split<;>rfl
theorem drop_num(E:En)(v:Int):(E.drop v).num=E.num:=by
 unfold En.drop
 split
 ·rfl
 ·split<;>rfl
theorem put_num(E:En)(s:ByteArray):(E.put s).num=E.num:=by unfold En.put;split<;>rfl
theorem drop_same{E:En}(hok:E.Ok){x:Int}(h:E.dropE x≠0):E.drop x=E:=by
 unfold En.dropE at h;unfold En.drop
 by_cases h1:E.mayE x≠0
 ·rw[if_pos h1]
 ·rw[if_neg h1] at h⊢
  by_cases h2:x∈E.own
  ·rw[if_pos h2] at h;obtain⟨m1,m2,m3⟩:=hok.may x h2;have hm:Sp.mayB x=true:=by unfold Sp.mayB;simp[m1,m3]
   have hp:Sp.unmapE E.A x=0:=by
    unfold Sp.unmapE;rw[if_neg (by rw[hm];decide),if_pos];unfold pageAt;rw[m1,Int.sub_zero];exact hok.has x h2
   exact absurd hp h
  ·rw[if_neg h2]
theorem put_same{E:En}{s:ByteArray}(h:E.putE s≠0):E.put s=E:=by unfold En.put;rw[if_pos h]
theorem take_same{g:Option Gr}(h:Gp.takeE g≠0):Gp.take g=g:=by
 unfold Gp.takeE at h;unfold Gp.take;cases g with
 |none=>rfl
 |some G=>
  simp only at h⊢
  split
  ·rfl
  ·rename_i q;rw[if_neg q] at h;exact absurd rfl h
theorem take_sameG{G:Int→Option Gr}{n:Int}(h:Gp.takeE (G n)≠0):Gp.upd G n (Gp.take (G n))=G:=by rw[take_same h,Gp.upd_same]
theorem putA_addrs(A:List Pg)(x need:Int)(s:ByteArray):(Sp.putA A x need s).map Pg.addr=A.map Pg.addr:=by
 have h1:∀(A:List Pg) (x v:Int),(setByte A x v).map Pg.addr=A.map Pg.addr:=fun A x v=>by
  unfold setByte;rw[List.map_map];exact List.map_congr_left fun p _=>setPg_addr x v p
 have h2:∀(A:List Pg) (addr:Int) (xs:List Int) (k:Nat),(putN A addr xs k).map Pg.addr=A.map Pg.addr:=fun A addr xs k=>by
  induction k with
  |zero=>rfl
  |succ k ih=>exact(h1 _ _ _).trans ih
 unfold Sp.putA
 split
 ·exact h2 _ _ _ _
 ·rfl
theorem putA_own{E:En}(h:E.Ok)(x need:Int)(s:ByteArray):∀y,y∈E.own→(atAddr (Sp.putA E.A x need s) y).isSome=true:=fun y hy=>by
 have:=h.has y hy;rw[isSome_addr] at this⊢;rw[putA_addrs];exact this
theorem putA_same{A:List Pg}{x need:Int}{s:ByteArray}(h:Sp.fitsE A x s.size need≠0):Sp.putA A x need s=A:=by
 unfold Sp.fitsE at h;unfold Sp.putA
 split
 ·rename_i q;rw[if_pos q] at h;exact absurd rfl h
 ·rfl
theorem getS_size{A:List Pg}{x n:Int}(n0:0≤n)(h:Sp.getE A x n 1=0):(Sp.getS A x n 1).size=n.toNat:=by
 unfold Sp.getE at h;unfold Sp.getS
 split at h
 ·cases h
 ·rename_i q
  rw[if_neg q];unfold Sp.fitsE at h
  split at h
  ·rename_i q2
   rw[if_pos q2];have:=strOfNums_size (Sp.getL A x n.toNat);rw[this,Sp.getL_length]
  ·cases h
namespace Ni
theorem from'(f:ByteArray)(hf:f.size<140737488355328)(w:World):Calls Tryz.prog 96 #[.string f] w fun e w'=>e=.returned (.tuple #[.int .u16 (portV f 20),.bool (portB f)])∧Below w.heap.size w w':=by
 have hp:∀w,Calls Tryz.prog 185 #[.string f,.int .i64 20] w fun e w'=>e=.returned (.tuple #[.int .u16 (portV f 20),.bool (portB f)])∧Below w.heap.size w w':=fun w=>port f hf 20 (by omega) w
 go_enter func96,ntmps96;go_wp2_with (go_at_call 185;(with_reducible refine(hp _).mono ?_);rintro e w1 ⟨rfl,hb⟩);go_ret2;exact⟨rfl,by assumption⟩
end Ni
theorem Kn.block_some{B:List (List ByteArray)}{id n:Int}{s:ByteArray}(h:Kn.block B id n=some s):∃(i j:Nat) (l:List ByteArray),id=i∧n=j∧B[i]? =some l∧l[j]? =some s:=by
 unfold Kn.block at h
 split at h
 ·rename_i hc
  obtain⟨i,rfl⟩:=Int.eq_ofNat_of_zero_le hc.1;obtain⟨j,rfl⟩:=Int.eq_ofNat_of_zero_le hc.2;rw[Option.bind_eq_some_iff] at h;obtain⟨l,h1,h2⟩:=h;exact⟨i,j,l,rfl,rfl,h1,h2⟩
 ·cases h
theorem Kn.block_of{B:List (List ByteArray)}{i j:Nat}{l:List ByteArray}{s:ByteArray}(h1:B[i]? =some l)(h2:l[j]? =some s):Kn.block B i j=some s:=by
 unfold Kn.block;rw[if_pos ⟨by omega,by omega⟩,Int.toNat_natCast,Int.toNat_natCast,h1];exact h2
theorem Kn.setB_eq{B:List (List ByteArray)}{i j:Nat}{l:List ByteArray}(h1:B[i]? =some l)(s:ByteArray):Kn.setB B i j s=B.set i (l.set j s):=by
 unfold Kn.setB;rw[Int.toNat_natCast,Int.toNat_natCast]
 apply List.ext_getElem?
 intro k;rw[List.getElem?_modify,List.getElem?_set]
 by_cases e:i=k
 ·subst e;rw[if_pos rfl,h1,if_pos (List.getElem?_eq_some_iff.1 h1).1]
  simp
 ·rw[if_neg e];simp only[if_neg e];cases B[k]? <;>rfl
namespace Kl
theorem row_at{w:World}{a:KAt}{K:Kn}(h:Knl w a K){i:Nat}{l:List ByteArray}(hl:K.B[i]? =some l):∃bg boff bc ra rc,a.bv=.slice (some ⟨bg,boff,none⟩) K.B.length bc∧a.rows[i]? =some (.slice ra l.length rc)∧w.cell? ⟨bg,boff+i,none⟩=some (.slice ra l.length rc)∧SlV w 9 1 (.slice ra l.length rc) l.length (l.map .string):=by
 have hi:=(List.getElem?_eq_some_iff.1 hl).1;have hi':i<a.rows.length:=by rw[h.len];exact hi
 have hr:a.rows[i]? =some a.rows[i]:=Zg hi';have hin:=h.inner i _ l hr hl;obtain⟨ra,rc,hv⟩:=hin.form;rw[hv] at hr hin;have ho:=h.outer;rcases ho.2 with⟨h0,_⟩|⟨g,off,cap,cur,hb,hg,_⟩
 ·have:=h.len;omega
 ·rw[hb] at ho;exact⟨g,off,cap,ra,rc,by rw[hb,h.len],hr,by rw[ho.cell i (by have:=h.len;omega)];exact hr,hin⟩
theorem len_bd{w:World}{a:KAt}{K:Kn}(h:Knl w a K):K.B.length≤9223372036854775807:=by
 have:=slv_len h.outer;unfold maxLen at this;have:=h.len;omega
section
variable {w:World} {a:KAt} {K:Kn}
theorem find_some(h:Knl w a K){i j:Nat}{l:List ByteArray}{s:ByteArray}(hl:K.B[i]? =some l)(hs:l[j]? =some s)(hi0:i≤4294967295)(hj0:j≤4294967295):
  Calls Tryz.prog 104 #[.pointer (some ⟨a.kb,0,none⟩),.int .u32 i,.int .u32 j] w fun e w'=>∃g off cap,e=.returned (.pointer (some ⟨g,off+j,none⟩))∧w=w'∧a.rows[i]? =some (.slice (some ⟨g,off,none⟩) l.length cap)∧w.cell? ⟨g,off+j,none⟩=some (.string s):=by
 have hn:=len_bd h;obtain⟨bg,boff,bc,ra,rc,hbv,hr,hrc,hin⟩:=row_at h hl;have hi:=(List.getElem?_eq_some_iff.1 hl).1;have hj:=(List.getElem?_eq_some_iff.1 hs).1;obtain⟨g,off,rfl⟩:∃g off,ra=some ⟨g,off,none⟩:=by
  rcases hin.2 with⟨h0,_⟩|⟨g,off,cap,cur,hv,_⟩
  ·omega
  ·simp only[Value.slice.injEq] at hv;exact⟨g,off,hv.1⟩
 have hln:l.length≤9223372036854775807:=by have:=slv_len hin;unfold maxLen at this;omega
 have hcs:w.cell? ⟨g,off+j,none⟩=some (.string s):=by rw[hin.cell j (by omega),List.getElem?_map,hs];rfl
 have hb:=(h.cells).2.2.2.2.1;rw[hbv] at hb;have HR:Hid (a.rows[i]? =some (.slice (some ⟨g,off,none⟩) l.length rc)∧w.cell? ⟨g,off+j,none⟩=some (.string s)):=Lh ⟨hr,hcs⟩;have g1:decide (K.B.length≤i)=false:=decide_eq_false (by omega);have g2:decide (l.length≤j)=false:=decide_eq_false (by omega);generalize K.B.length=n at*;generalize hll:l.length=m at*;clear h hl hs hr hin hbv hcs hll;go_enter func104,ntmps104;go_wp2;go_ret;exact⟨g,off,rc,rfl,rfl,HR.out⟩
theorem find_none(h:Knl w a K){id n:Int}(hb:Kn.block K.B id n=none)(i0:0≤id)(i1:id≤4294967295)(n0:0≤n)(n1:n≤4294967295):
  Calls Tryz.prog 104 #[.pointer (some ⟨a.kb,0,none⟩),.int .u32 id,.int .u32 n] w fun e w'=>e=.returned (.pointer none)∧w=w':=by
 have hn:=len_bd h;obtain⟨i,rfl⟩:=Int.eq_ofNat_of_zero_le i0;obtain⟨j,rfl⟩:=Int.eq_ofNat_of_zero_le n0;have hbv:=(h.cells).2.2.2.2.1
 by_cases hi:i<K.B.length
 ·have hl:K.B[i]? =some K.B[i]:=Zg hi;obtain⟨bg,boff,bc,ra,rc,hbe,hr,hrc,hin⟩:=row_at h hl;have hj:¬j<K.B[i].length:=fun q=>by
   rw[Kn.block_of hl (Zg q)] at hb;cases hb
  rw[hbe] at hbv;have hln:K.B[i].length≤9223372036854775807:=by have:=slv_len hin;unfold maxLen at this;omega
  have g1:decide (K.B.length≤i)=false:=decide_eq_false (by omega);have g2:decide (K.B[i].length≤j)=true:=decide_eq_true (by omega);obtain⟨m,hm⟩:∃m,K.B[i].length=m:=⟨_,rfl⟩;rw[hm] at hrc hln g2;clear h hl hr hin hbe hb hj hm;generalize K.B.length=n at*;go_enter func104,ntmps104;go_wp2;go_ret;exact⟨rfl,rfl⟩
 ·obtain⟨ba,bc,hbe⟩:=h.outer.form;rw[hbe,h.len] at hbv;have g1:decide (K.B.length≤i)=true:=decide_eq_true (by omega);generalize K.B.length=n at*;clear h hbe hb;go_enter func104,ntmps104;go_wp2;go_ret;exact⟨rfl,rfl⟩
def blkS(o:Option ByteArray):ByteArray:=o.getD ByteArray.empty
def blkE(o:Option ByteArray):Int:=match o with|none=>2|some _=>0
theorem block(h:Knl w a K)(id n:Int)(i0:0≤id)(i1:id≤4294967295)(n0:0≤n)(n1:n≤4294967295):
  Calls Tryz.prog 113 #[.pointer (some ⟨a.kb,0,none⟩),.int .u32 id,.int .u32 n] w fun e w'=>e=.returned (.tuple #[.string (blkS (Kn.block K.B id n)),.int .i64 (blkE (Kn.block K.B id n))])∧w=w':=by
 cases hb:Kn.block K.B id n with
 |none=>
  have H:=Lh (find_none h hb i0 i1 n0 n1);clear h hb;go_enter func113,ntmps113;go_wp2_with fail;refine H.out.mono ?_;rintro e w1 ⟨rfl,rfl⟩;go_wp2;go_ret2;exact⟨rfl,rfl⟩
 |some s=>
  obtain⟨i,j,l,rfl,rfl,hl,hs⟩:=Kn.block_some hb;have H:=Lh (find_some h hl hs (by omega) (by omega));clear h hb hl hs;go_enter func113,ntmps113;go_wp2_with fail;refine H.out.mono ?_;rintro e w1 ⟨g,off,cap,rfl,rfl,_,hc⟩;go_wp2;go_ret2;exact⟨rfl,rfl⟩
theorem setBlock(h:Knl w a K)(id n:Int)(s:ByteArray)(i0:0≤id)(i1:id≤4294967295)(n0:0≤n)(n1:n≤4294967295)(hz:s.size≤140737488355328):
  Calls Tryz.prog 27 #[.pointer (some ⟨a.kb,0,none⟩),.int .u32 id,.int .u32 n,.string s] w fun e w'=>e=.returned (.int .i64 (Kn.setE K.B id n s))∧KStep w w' a K a (K.setBlock id n s):=by
 cases hb:Kn.block K.B id n with
 |none=>
  have HE:Hid (Kn.setE K.B id n s=2∧K.setBlock id n s=K):=Lh (by
   have e:Kn.setE K.B id n s=2:=by unfold Kn.setE;rw[hb,if_pos (.inl rfl)]
   exact⟨e,by unfold Kn.setBlock;rw[if_neg (by omega)]⟩)
  have H:=Lh (find_none h hb i0 i1 n0 n1);have HR:=Lh (KStep.refl h);clear h hb;go_enter func27,ntmps27;go_wp2_with fail;refine H.out.mono ?_;rintro e w1 ⟨rfl,rfl⟩;go_wp2;go_ret;exact⟨by rw[HE.out.1];rfl,by rw[HE.out.2];exact HR.out⟩
 |some t=>
  obtain⟨i,j,l,rfl,rfl,hl,ht⟩:=Kn.block_some hb;have H:=Lh (find_some h hl ht (by omega) (by omega))
  by_cases hs:s.size=64
  ·have hj:=(List.getElem?_eq_some_iff.1 ht).1;have HE:Hid (Kn.setE K.B i j s=0∧K.setBlock i j s= {K with B:=K.B.set i (l.set j s)}):=Lh (by
    have e:Kn.setE K.B i j s=0:=by unfold Kn.setE;rw[hb,if_neg (by simp[hs])]
    exact⟨e,by unfold Kn.setBlock;rw[if_pos e,Kn.setB_eq hl]⟩)
   have HS:=Lh fun v (hv:a.rows[i]? =some v)=>KStep.setBlk h hv hl hj s hs
   have hsz:((s.size:Int) != 64)=false:=by rw[hs];rfl
   clear h hb hl ht hs;go_enter func27,ntmps27;go_wp2_with fail;refine H.out.mono ?_;rintro e w1 ⟨g,off,cap,rfl,rfl,hr,hc⟩;obtain⟨g',off',⟨cap',e'⟩,_,hf,hk⟩:=HS.out _ hr;simp only[Value.slice.injEq,Option.some.injEq,Addr.mk.injEq,and_true] at e';obtain⟨⟨rfl,rfl⟩,_⟩:=e';have HK:=Lh hk;clear hr hk;go_wp2;go_ret;exact⟨by rw[HE.out.1];rfl,by rw[HE.out.2];exact HK.out⟩
  ·have HE:Hid (Kn.setE K.B i j s=2∧K.setBlock i j s=K):=Lh (by
    have e:Kn.setE K.B i j s=2:=by unfold Kn.setE;rw[if_pos (.inr hs)]
    exact⟨e,by unfold Kn.setBlock;rw[if_neg (by omega)]⟩)
   have hsz:((s.size:Int) != 64)=true:=bne_iff_ne.2 (by omega);have HR:=Lh (KStep.refl h);clear h hb hl ht hs;go_enter func27,ntmps27;go_wp2_with fail;refine H.out.mono ?_;rintro e w1 ⟨g,off,cap,rfl,rfl,hr,hc⟩;clear hr;go_wp2;go_ret;exact⟨by rw[HE.out.1];rfl,by rw[HE.out.2];exact HR.out⟩
theorem setBlock_now(K:Kn)(id n:Int)(s:ByteArray):(K.setBlock id n s).now=K.now:=by unfold Kn.setBlock;split<;>rfl
theorem tick(h:Knl w a K):Calls Tryz.prog 26 #[.pointer (some ⟨a.kb,0,none⟩)] w fun e w'=>e=.returned (.int .i64 0)∧KStep w w' a K a {K with now:=(K.now+1) % 4294967296}:=by
 have HS:=Lh (KStep.setNow h ((K.now+1) % 4294967296) (by have:=h.ok.n0;omega) (by omega));obtain⟨_,_,_,_,_,c5⟩:=h.cells;have f5:=h.free 5;have n0:=h.ok.n0;clear h;go_enter func26,ntmps26;go_wp2;go_ret;exact⟨rfl,HS.out⟩
theorem now(h:Knl w a K):Calls Tryz.prog 114 #[.pointer (some ⟨a.kb,0,none⟩)] w fun e w'=>e=.returned (.int .u32 K.now)∧w=w':=by
 obtain⟨_,_,_,_,_,c5⟩:=h.cells;clear h;go_enter func114,ntmps114;go_wp2;go_ret;exact⟨rfl,rfl⟩
theorem caps(h:Knl w a K):Calls Tryz.prog 25 #[.pointer (some ⟨a.kb,0,none⟩)] w fun e w'=>e=.returned (.pointer (some ⟨a.c.cb,0,none⟩))∧w=w':=by
 obtain⟨_,_,c2,_,_,_⟩:=h.cells;clear h;go_enter func25,ntmps25;go_wp2;go_ret;exact⟨rfl,rfl⟩
theorem nic(h:Knl w a K):Calls Tryz.prog 12 #[.pointer (some ⟨a.kb,0,none⟩)] w fun e w'=>e=.returned (.pointer (some ⟨a.nb,0,none⟩))∧w=w':=by
 obtain⟨_,_,_,c3,_,_⟩:=h.cells;clear h;go_enter func12,ntmps12;go_wp2;go_ret;exact⟨rfl,rfl⟩
end
end Kl
namespace Rk
theorem info_strs:(Tryz.prog.info? 35).map (fun i=>(i.zero,i.size,i.bytes))=some (some (.slice none 0 0),1,24):=by kernel_rfl
section
variable {w:World} {a:RkAt} {K:Kn}
theorem setBlock(h:Rkl w a K){id n:Int}{t:ByteArray}(hb:Kn.block K.B id n=some t)(s:ByteArray)(hs:s.size=64):Calls Tryz.prog 71 #[.pointer (some ⟨a.kb,0,none⟩),.int .u32 id,.int .u32 n,.string s] w fun e w'=>e=.returned (.tuple #[])∧∃a',RkStep w w' a K a' (K.setBlock id n s):=by
 have hse:Kn.setE K.B id n s=0:=by unfold Kn.setE;rw[hb,if_neg (by simp[hs])]
 obtain⟨i,j,l,rfl,rfl,hl,ht⟩:=Kn.block_some hb;have hK:K.setBlock i j s= {K with B:=K.B.set i (l.set j s)}:=by unfold Kn.setBlock;rw[if_pos hse,Kn.setB_eq hl]
 rw[hK];clear hK hse hb;obtain⟨g,off,cap,ro,rc,hbv,hrow,hri,hin⟩:=h.row_at hl;have hi:=(List.getElem?_eq_some_iff.1 hl).1;have hj:=(List.getElem?_eq_some_iff.1 ht).1;have hil:=h.bl.1;have hjl:=h.bl.2 i l hl;obtain⟨c0,c1,c2,c3⟩:=h.cells;rw[hbv] at c2;obtain⟨i0,hi0,hz0,hz1,hz2⟩:=Ni.infoStr';obtain⟨i1,hi1,hy0,hy1,hy2⟩:=info_parts info_strs
 -- the row's copy
 rcases hin.2 with⟨e0,_⟩|⟨rg,roff,rcap,rcur,er,_⟩
 ·omega
 rw[er] at hin hri hrow;have hA1:=Rw.app (W:=w) (t:=35) Rw.none_str Tryz.underlying35 hi0 hz0 hz1 hz2 rfl (by omega) (by omega) (SlV.nil w 9 1) (m:=l.length) (cap:=rcap) (ys:=l.map .string) (by simp) (a:=some ⟨rg,roff,none⟩) (by
  have:=Rw.at_part hin rfl 0 l.length (by omega) (by omega);simp only[Nat.zero_mul,List.drop_zero,Nat.sub_zero,Nat.add_zero,Nat.mul_one] at this;rw[List.take_of_length_le (by simp)] at this;exact this) (by omega) (fun u hu=>by obtain⟨x,_,rfl⟩:=List.mem_map.1 hu;rfl)
 obtain⟨o1,k1,W1,hr1,hs1,hm1,hw1⟩:=hA1;rw[Nat.zero_add] at hr1 hs1 hw1;rw[List.nil_append] at hs1;have hb1:Below w.heap.size w W1:=(hm1.mono fun k _ z=>(nomatch z):Mod (fun _=>False) w W1).toBelow;rcases hs1.2 with⟨e0,_⟩|⟨g1,off1,k1',cur1,e1,_⟩
 ·omega
 simp only[Value.slice.injEq,true_and] at e1;obtain⟨rfl,rfl⟩:=e1;have hg1:w.heap.size≤g1∧g1<W1.heap.size:=by
  rcases hw1 with z|⟨k,z,z1,z2⟩
  ·cases z
  ·cases z;exact⟨z1,z2⟩
 -- the block is put
 have hs2:=hs1.setCell j (by omega) (.string s);rw[←List.map_set] at hs2;have hb2:Below w.heap.size w (W1.setCell ⟨g1,off1+j,none⟩ (.string s)):=Mod.below hb1 (Mod.setCell (F:=fun k=>k=g1) (Mod.refl _ _) ⟨g1,off1+j,none⟩ (.inl rfl) _) hb1.size fun k _ e=>by subst e;exact hg1.1
 have d1:W1.cell? ⟨g1,off1+j,none⟩=some (.string t):=by rw[hs1.cell j (by omega),List.getElem?_map,ht];rfl
 have d2:=hs1.free (by omega) (off1+j);have d3:(W1.setCell ⟨g1,off1+j,none⟩ (.string s)).cell? ⟨a.kb,2,none⟩=some (.slice (some ⟨g,off,none⟩) K.B.length cap):=cQ hb2 c2;have hz12:W1.heap.size≤(W1.setCell ⟨g1,off1+j,none⟩ (.string s)).heap.size:=by simp[World.setCell]
 -- the copy of the rows
 have h2:=h.below hb2;have hout:=h2.outer;rw[hbv,h.len] at hout;have hA2:=Rw.app (W:=W1.setCell ⟨g1,off1+j,none⟩ (.string s)) (t:=123) Rw.none_strs Tryz.underlying123 hi1 hy0 hy1 hy2 rfl (by omega) (by omega) (SlV.nil _ 35 1) (m:=K.B.length) (cap:=cap) (ys:=a.rows) (by rw[h.len];omega) (a:=some ⟨g,off,none⟩) (by
  have:=Rw.at_part hout rfl 0 K.B.length (by omega) (by omega);simp only[Nat.zero_mul,List.drop_zero,Nat.sub_zero,Nat.add_zero,Nat.mul_one] at this;rw[List.take_of_length_le (by rw[h.len];omega)] at this;exact this) (by omega) (fun u hu=>by
   obtain⟨q,hq,rfl⟩:=List.mem_iff_getElem.1 hu;obtain⟨o,c,e⟩:=(h.inner q _ _ (Zg hq) (Zg (by rw[←h.len];exact hq))).form;rw[e];rfl)
 obtain⟨o2,k2,W2,hr2,hs3,hm2,hw2⟩:=hA2;rw[Nat.zero_add] at hr2 hs3 hw2;rw[List.nil_append] at hs3;have hb3:Below (W1.setCell ⟨g1,off1+j,none⟩ (.string s)).heap.size (W1.setCell ⟨g1,off1+j,none⟩ (.string s)) W2:=(hm2.mono fun k _ z=>(nomatch z):Mod (fun _=>False) _ W2).toBelow;have hb3w:=bQ hb2 hb3;rcases hs3.2 with⟨e0,_⟩|⟨g2,off2,k2',cur2,e2,_⟩
 ·omega
 simp only[Value.slice.injEq,true_and] at e2;obtain⟨rfl,rfl⟩:=e2;have hg2:(W1.setCell ⟨g1,off1+j,none⟩ (.string s)).heap.size≤g2∧g2<W2.heap.size:=by
  rcases hw2 with z|⟨k,z,z1,z2⟩
  ·cases z
  ·cases z;exact⟨z1,z2⟩
 have hs4:=hs3.setCell i (by omega) (.slice (some ⟨g1,off1,none⟩) l.length k1);have hm3:Mod (fun k=>k=g2) W2 (W2.setCell ⟨g2,off2+i,none⟩ (.slice (some ⟨g1,off1,none⟩) l.length k1)):=Mod.setCell (F:=fun k=>k=g2) (Mod.refl _ _) ⟨g2,off2+i,none⟩ (.inl rfl) _;have hb4:Below w.heap.size w (W2.setCell ⟨g2,off2+i,none⟩ (.slice (some ⟨g1,off1,none⟩) l.length k1)):=Mod.below hb3w hm3 hb3w.size fun k _ e=>by subst e;omega
 have d4:W2.cell? ⟨g2,off2+i,none⟩=some (.slice (some ⟨rg,roff,none⟩) l.length rcap):=by rw[hs3.cell i (by omega),hri]
 have d5:=hs3.free (by omega) (off2+i);have h4:=h.below hb4;obtain⟨_,_,d6,_⟩:=h4.cells;rw[hbv] at d6;have d7:=h4.free 2;have hnew:SlV (W2.setCell ⟨g2,off2+i,none⟩ (.slice (some ⟨g1,off1,none⟩) l.length k1)) 9 1 (.slice (some ⟨g1,off1,none⟩) l.length k1) (l.set j s).length ((l.set j s).map .string):=by
  rw[List.length_set];exact(hs2.below hb3).mod hm3 fun k hk e=>by
   have hk:some g1=some k:=hk;have hk:=Option.some.inj hk;omega
 have hstep:=RkStep.setRows h hb4 (bv:=.slice (some ⟨g2,off2,none⟩) K.B.length k2) (rows:=a.rows.set i (.slice (some ⟨g1,off1,none⟩) l.length k1)) (B:=K.B.set i (l.set j s)) (by rw[List.length_set,List.length_set,h.len]) (by rw[List.length_set,h.len];exact hs4) (fun q v m hv hm=>by
   by_cases e:q=i
   ·subst e;rw[List.getElem?_set_self (by rw[h.len];omega)] at hv;rw[List.getElem?_set_self (by omega)] at hm;cases hv;cases hm;exact hnew
   ·rw[List.getElem?_set_ne (fun z=>e z.symm)] at hv hm;exact h4.inner q v m hv hm) ⟨by rw[List.length_set];exact hil,fun q m hm=>by
   by_cases e:q=i
   ·subst e;rw[List.getElem?_set_self (by omega)] at hm;cases hm;rw[List.length_set];exact hjl
   ·rw[List.getElem?_set_ne (fun z=>e z.symm)] at hm;exact h.bl.2 q m hm⟩ (fun q m hm=>by
   by_cases e:q=i
   ·subst e;rw[List.getElem?_set_self (by omega)] at hm;cases hm;intro z hz;rcases List.mem_or_eq_of_mem_set hz with y|y
    ·exact h.ok.bs q l hl z y
    ·rw[y];exact hs
   ·rw[List.getElem?_set_ne (fun z=>e z.symm)] at hm;exact h.ok.bs q m hm) (fun k hk=>by
   have hz3:=hm3.size;have hz4:=hb3.size;have hz5:=hb1.size;rcases hk with z|⟨v,hv,z⟩
   ·have z:some g2=some k:=z;have z:=Option.some.inj z;exact .inr (by omega)
   ·rcases List.mem_or_eq_of_mem_set hv with y|y
    ·exact .inl (.inr ⟨v,y,z⟩)
    ·subst y;have z:some g1=some k:=z;have z:=Option.some.inj z;exact .inr (by omega))
 have HEnd:=Lh hstep;have HR1:=Lh hr1;have HR2:=Lh hr2;have ii:(i:Int)<K.B.length:=by omega
 have jj:(j:Int)<l.length:=by omega
 clear hstep hr1 hr2 h h2 h4 hnew hs1 hs2 hs3 hs4 hm1 hm2 hm3 hw1 hw2 hb1 hb2 hb3 hb3w hb4 hout hin hri hl ht hbv hi0 hz0 hz1 hz2 hi1 hy0 hy1 hy2 hs;generalize K.B.length=nb at*;generalize l.length=nl at*;go_enter func71,ntmps71;go_wp2_with (at_builtin;first
  |refine R11.wpList_append_run rfl _ _ _ rfl rfl rfl HR1.out ?_
  |refine R11.wpList_append_run rfl _ _ _ rfl rfl rfl HR2.out ?_)
 go_end0;exact⟨rfl,HEnd.out⟩
theorem has(h:Rkl w a K){id n:Int}(i0:0≤id)(i1:id≤4294967295)(n0:0≤n)(n1:n≤4294967295):Calls Tryz.prog 70 #[.pointer (some ⟨a.kb,0,none⟩),.int .u32 id,.int .u32 n] w fun e w'=>e=.returned (.bool (Kn.block K.B id n).isSome)∧w=w':=by
 obtain⟨i,rfl⟩:=Int.eq_ofNat_of_zero_le i0;obtain⟨j,rfl⟩:=Int.eq_ofNat_of_zero_le n0;obtain⟨c0,c1,c2,c3⟩:=h.cells;have hil:=h.bl.1;have wb:IntKind.u32.wrap (K.B.length:Int)=K.B.length:=wrap32 (by omega) (by omega)
 by_cases hi:i<K.B.length
 ·have hl:K.B[i]? =some K.B[i]:=Zg hi;have hjl:=h.bl.2 i _ hl;obtain⟨g,off,cap,ro,rc,hbv,hrow,hri,hin⟩:=h.row_at hl;rw[hbv] at c2;have hv:(Kn.block K.B i j).isSome=decide (j<K.B[i].length):=by
   by_cases q:j<K.B[i].length
   ·rw[Kn.block_of hl (Zg q),decide_eq_true q];rfl
   ·rw[decide_eq_false q];cases hb:Kn.block K.B i j with
    |none=>rfl
    |some t=>
     obtain⟨i',j',l,e1,e2,hl',ht⟩:=Kn.block_some hb;have e1:i=i':=by omega
     have e2:j=j':=by omega
     subst e1;subst e2;rw[hl] at hl';cases hl';have:=(List.getElem?_eq_some_iff.1 ht).1;omega
  rw[hv];have ii:(i:Int)<K.B.length:=by omega
  obtain⟨m,hm⟩:∃m,K.B[i].length=m:=⟨_,rfl⟩;rw[hm] at hjl hrow⊢;have wm:IntKind.u32.wrap (m:Int)=m:=wrap32 (by omega) (by omega);have ed:decide ((j:Int)<(m:Int))=decide (j<m):=by simp
  have Hd:=Lh ed;clear h hl hbv hri hin hv hm ed;generalize K.B.length=nb at*;go_enter func70,ntmps70;go_wp2;go_ret;exact⟨rfl,rfl⟩
 ·have hv:(Kn.block K.B i j).isSome=false:=by
   cases hb:Kn.block K.B i j with
   |none=>rfl
   |some t=>
    obtain⟨i',j',l,e1,e2,hl',ht⟩:=Kn.block_some hb;have:=(List.getElem?_eq_some_iff.1 hl').1;omega
  rw[hv];obtain⟨bo,bc,hbv⟩:=h.outer.form;rw[hbv,h.len] at c2;have ii:¬(i:Int)<K.B.length:=by omega
  clear h hv hbv;generalize K.B.length=nb at*;go_enter func70,ntmps70;go_wp2;go_ret;exact⟨rfl,rfl⟩
end
end Rk
open Go.RowKit Word
structure Duo(w0 w:World)(cb sb mb:Nat)(A:List Pg)(rc:List Int)(pcc:Int)(db rb:Nat)(lv:Value)(R:List Rp)(rd:List Int)(pcd:Int):Prop where
 cp:Cpu 291 w cb rc pcc
 dp:Cpu 153 w db rd pcd
 pair:Pair w sb mb A rb lv R
 bel:Below w0.heap.size w0 w
 c0:w0.heap.size≤cb
 d0:w0.heap.size≤db
 a0:∀k,Spc.foot sb mb A k→w0.heap.size≤k
 r0:∀k,Rsp.foot rb lv R k→w0.heap.size≤k
 cd:cb≠db
 ca:¬Spc.foot sb mb A cb
 cr:¬Rsp.foot rb lv R cb
 da:¬Spc.foot sb mb A db
 dr:¬Rsp.foot rb lv R db
namespace Duo
variable {w0 w w':World} {cb sb mb:Nat} {A A':List Pg} {rc rc':List Int} {pcc pcc':Int} {db rb:Nat} {lv lv':Value} {R R':List Rp} {rd rd':List Int} {pcd pcd':Int}
theorem below(h:Duo w0 w cb sb mb A rc pcc db rb lv R rd pcd)(hb:Below w.heap.size w w'):Duo w0 w' cb sb mb A rc pcc db rb lv R rd pcd:=
 {h with cp:=h.cp.below hb,dp:=h.dp.below hb,pair:=h.pair.below hb,bel:=h.bel.trans (hb.mono h.bel.size)}
theorem setC(h:Duo w0 w cb sb mb A rc pcc db rb lv R rd pcd)(hc:Cpu 291 w' cb rc' pcc')(hm:Mod (fun k=>k=cb) w w'):Duo w0 w' cb sb mb A rc' pcc' db rb lv R rd pcd:=
 {h with
      cp:=hc,dp:=h.dp.keep hm (fun g=>h.cd g.symm),pair:=⟨h.pair.sp.keep hm (fun k hk g=>h.ca (g▸hk)),h.pair.rp.keep hm (fun k hk g=>h.cr (g▸hk)),h.pair.apart⟩,
      bel:=hm.below h.bel h.bel.size (fun i _ hi=>hi▸h.c0)}
theorem setD(h:Duo w0 w cb sb mb A rc pcc db rb lv R rd pcd)(hd:Cpu 153 w' db rd' pcd')(hm:Mod (fun k=>k=db) w w'):Duo w0 w' cb sb mb A rc pcc db rb lv R rd' pcd':=
 {h with
      cp:=h.cp.keep hm h.cd,dp:=hd,pair:=⟨h.pair.sp.keep hm (fun k hk g=>h.da (g▸hk)),h.pair.rp.keep hm (fun k hk g=>h.dr (g▸hk)),h.pair.apart⟩,
      bel:=hm.below h.bel h.bel.size (fun i _ hi=>hi▸h.d0)}
theorem left(h:Duo w0 w cb sb mb A rc pcc db rb lv R rd pcd)(s:SStep w w' sb mb A A'):Duo w0 w' cb sb mb A' rc pcc db rb lv R rd pcd:=
 {h with
      cp:=h.cp.keep s.mod h.ca,dp:=h.dp.keep s.mod h.da,pair:=h.pair.left s,bel:=s.mod.below h.bel h.bel.size (fun i _ hi=>h.a0 i hi),
      a0:=fun k hk=>(s.foot k hk).elim (h.a0 k) fun g=>Nat.le_trans h.bel.size g,
      ca:=fun g=>(s.foot _ g).elim h.ca fun g=>by have:=h.cp.lt;omega,
      da:=fun g=>(s.foot _ g).elim h.da fun g=>by have:=h.dp.lt;omega}
theorem right(h:Duo w0 w cb sb mb A rc pcc db rb lv R rd pcd)(s:RStep w w' rb lv R lv' R'):Duo w0 w' cb sb mb A rc pcc db rb lv' R' rd pcd:=
 {h with
      cp:=h.cp.keep s.mod h.cr,dp:=h.dp.keep s.mod h.dr,pair:=h.pair.right s,bel:=s.mod.below h.bel h.bel.size (fun i _ hi=>h.r0 i hi),
      r0:=fun k hk=>(s.foot k hk).elim (h.r0 k) fun g=>Nat.le_trans h.bel.size g,
      cr:=fun g=>(s.foot _ g).elim h.cr fun g=>by have:=h.cp.lt;omega,
      dr:=fun g=>(s.foot _ g).elim h.dr fun g=>by have:=h.dp.lt;omega}
theorem weaken{w00:World}(h:Duo w0 w cb sb mb A rc pcc db rb lv R rd pcd)(hb:Below w00.heap.size w00 w0):Duo w00 w cb sb mb A rc pcc db rb lv R rd pcd:=
 {h with bel:=hb.trans (h.bel.mono hb.size),c0:=Nat.le_trans hb.size h.c0,d0:=Nat.le_trans hb.size h.d0,a0:=fun k hk=>Nat.le_trans hb.size (h.a0 k hk),r0:=fun k hk=>Nat.le_trans hb.size (h.r0 k hk)}
end Duo
namespace Cp
def regsK(xs:Nat→Int)(k:Nat):List Int:=(List.range 16).map fun i=>if 0<i∧i<k then xs i else 0
theorem regsK_zero(xs:Nat→Int):regsK xs 0=List.replicate 16 0:=rfl
theorem regsK_succ(xs:Nat→Int)(k:Nat)(hk:k<16):putG (regsK xs k) k (xs k)=regsK xs (k+1):=by
 by_cases h0:k=0
 ·subst h0;rfl
 ·rw[putG_nat _ _ _ h0]
  apply List.ext_getElem?
  intro n;unfold regsK
  by_cases hn:n<16
  ·rw[List.getElem?_set];simp only[List.length_map,List.length_range,List.getElem?_map,List.getElem?_range hn,Option.map_some]
   by_cases e:k=n
   ·subst e;rw[if_pos rfl,if_pos hk,if_pos (by omega)]
   ·rw[if_neg e]
    by_cases g:0<n∧n<k
    ·rw[if_pos g,if_pos (by omega)]
    ·rw[if_neg g,if_neg (by omega)]
  ·rw[List.getElem?_eq_none (by simp;omega),List.getElem?_eq_none (by simp;omega)]
def pgsK(ps:Nat→Int):Nat→List Pg
 |0=>[]
 |k+1=>if ps k<8 then Sp.mapA (pgsK ps k) (k*256) 0 (ps k) else pgsK ps k
theorem pgsK_addr(ps:Nat→Int):∀(k:Nat) (p:Pg),p∈pgsK ps k→p.addr<k*256∧p.addr % 256=0
 |0,p,h=>by cases h
 |k+1,p,h=>by
  unfold pgsK at h
  split at h
  ·unfold Sp.mapA at h
   split at h
   ·rcases mem_insPg.1 h with rfl|g
    ·show((k:Int)*256)<((k+1:Nat):Int)*256∧((k:Int)*256) % 256=0
     omega
    ·have:=pgsK_addr ps k p g;omega
   ·have:=pgsK_addr ps k p h;omega
  ·have:=pgsK_addr ps k p h;omega
theorem pgsK_free(ps:Nat→Int)(k:Nat)(hk:k≤16)(h0:0≤ps k)(h8:ps k<8):Sp.mapE (pgsK ps k) (k*256) (ps k)=0:=by
 have hm:Sp.mayB ((k:Int)*256)=true:=by unfold Sp.mayB;rw[Bool.and_eq_true];exact⟨beq_iff_eq.2 (by omega),decide_eq_true (by omega)⟩
 have hn:pageAt (pgsK ps k) ((k:Int)*256)=none:=by
  unfold pageAt;rw[show((k:Int)*256) - (k:Int)*256 % 256=(k:Int)*256 by omega];refine atAddr_eq_none fun q hq=> ?_
  have:=pgsK_addr ps k q hq;omega
 unfold Sp.mapE;rw[if_neg (by rw[hm];rintro(g|g);cases g;omega),hn];rfl
def madeA(ps:Nat→Int)(np:Nat)(at':Int)(s:ByteArray)(wh:Int)(t:ByteArray):List Pg:=Sp.putA (Sp.putA (pgsK ps np) (at' % 4096) 0 s) (wh % 4096) 0 t
end Cp
end Go.Proofs.YtjjdjpdmgaipeaaGreat
namespace Go.Proofs.YtjjdjpdmgaipeaaGreat.WordRef
open Go.RowKit Word
theorem info_u8:(Tryz.prog.info? 5).map (fun i=>(i.zero,i.size,i.bytes))=some (some (.int .u8 0),1,1):=by kernel_rfl
theorem putL_next(v:Int)(k:Nat)(h0:0≤v)(h1:v≤4294967295)(hk:k<4):(putL v).take (k+1)=(putL v).take k++[v / 256 ^ k % 256]:=by
 have:k=0∨k=1∨k=2∨k=3:=by omega
 rcases this with rfl|rfl|rfl|rfl
 ·simp[putL]
 ·simp[putL]
 ·simp[putL]
 ·simp[putL];omega
theorem div256(v:Int)(k:Nat):v / 256 ^ k / 256=v / 256 ^ (k+1):=by
 rw[Int.ediv_ediv_of_nonneg (Int.le_of_lt (Int.pow_pos (by omega))),Int.pow_succ]
theorem putL_len(v:Int)(k:Nat)(hk:k≤4):((putL v).take k).length=k:=by rw[List.length_take];simp[putL];omega
def bytesRel(v:Int)(n:Nat)(W:World)(sv sb si:Value)(wr:World):Prop:=
 ∃(k:Nat) (x:Int),k≤n∧si=.int .i64 k∧sv=.int .u32 x∧0≤x∧x≤4294967295∧x=v / 256 ^ k∧Buf wr W.heap.size 5 sb ((putL v).take k)∧Below W.heap.size W wr
theorem Bytes(v:Int)(n:Nat)(hn:n≤4)(h0:0≤v)(h1:v≤4294967295)(w:World):
  Calls Tryz.prog 317 #[.int .u32 v,.int .i64 n] w fun e w'=>e=.returned (.string (putS v n))∧Below w.heap.size w w':=by
 obtain⟨i0,hi,hz0,hz1,hz2⟩:=info_parts info_u8;have Hi:=Lh hi;have Hz0:=Lh hz0;have Hz1:=Lh hz1;have Hz2:=Lh hz2;clear hi hz0 hz1 hz2;go_enter func317,ntmps317;go_wp2;go_loopw [0,5,6] (fun sv sb si wr=>bytesRel v n w sv sb si wr) (fun _ _ i _=>n - (intOf i).toNat)
 case atStart=>exact⟨0,v,by omega,rfl,rfl,h0,h1,by simp,Buf.nil _ _ _,Below.refl _ _⟩
 case round=>
  obtain⟨k,x,hk,rfl,rfl,x0,x1,hx,hbuf,hbel⟩:=hrel;obtain⟨L,hL⟩:∃L,(putL v).take k=L:=⟨_,rfl⟩;rw[hL] at hbuf;have Ho:=Lh hbuf;have Hb:=Lh hbel;have hbase:=hbel.size
  by_cases hk2:k<n
  ·have Hx:=Lh hx;have Hn:=Lh (putL_next v k h0 h1 (by omega));have Hl:=Lh (show L.length=k by rw[←hL];exact putL_len v k (by omega));have HL:=Lh hL;clear hx hbuf hbel hL;go_wp2_with (at_builtin;refine wpList_append_lies _ (by rfl) _ _ _ (by rfl) (w.heap.size) 5 i0 (.int .u8 0) 1 1 Tryz.underlying30 Hi.out Hz0.out Hz1.out Hz2.out rfl (by omega) u5 _ _ (by rfl) (World.ownsRow.alloc Ho.out _) ⟨wr.heap.size,0,none⟩ 1 1 [.int .u8 (x % 256)] (by rfl) (by rfl) (World.news_of_block (cs:= #[.int .u8 (x % 256)]) (t:=5) (fr:=(0,0)) (heap_alloc_new wr _)) (fun x hx=>by simp at hx;subst hx;rfl) (by omega) (by rw[Hl.out];unfold maxLen;omega) (by rw[Hl.out];omega) (by simp;omega) (wr.heap.size+1) (by simp) ?_;intro gg cap' w' hown' hgro hat hlt);refine⟨⟨k+1,x / 256,by omega,by go_num,rfl,by omega,by omega,by rw[Hx.out];exact div256 v k, ?_, ?_⟩,by simp[intOf];omega⟩
   ·rw[Hn.out,←Hx.out,HL.out];exact Buf.app hown'
   ·exact(Hb.out.alloc hbase _).grown hgro (by simp;omega) (fun k hk=>Buf.lt Ho.out k hk)
  ·obtain rfl:k=n:=by omega
   have hcs:=Buf.string (P:=Tryz.prog) Ho.out 30 9 Tryz.underlying30 Tryz.underlying5 Tryz.underlying9;have HL:=Lh hL;clear hx hbuf hbel hL;go_wp2;go_ret;exact⟨ret_str (by rw[←HL.out];rfl),Hb.out⟩
end Go.Proofs.YtjjdjpdmgaipeaaGreat.WordRef
