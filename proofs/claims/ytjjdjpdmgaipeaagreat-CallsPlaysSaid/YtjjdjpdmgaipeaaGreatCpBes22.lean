/- Bes22, PlP, AliG, Same22, CaCp, NiCp in one text. -/
import Derived.Test.YtjjdjpdmgaipeaaGreatCpReadA
import Derived.Test.YtjjdjpdmgaipeaaGreatCpKnewG
import Derived.Test.YtjjdjpdmgaipeaaGreatCpGraG
import Derived.Laws.StructEq
import Derived.Test.YtjjdjpdmgaipeaaGreatCpR22L
import Derived.Test.YtjjdjpdmgaipeaaGreatCpGrantG
import Derived.Test.YtjjdjpdmgaipeaaGreatCpCor
import Derived.Test.YtjjdjpdmgaipeaaGreatCpZa
set_option linter.unusedVariables false
set_option linter.unusedSimpArgs false
set_option maxRecDepth 100000
set_option maxHeartbeats 16000000
open Go.Proofs.Tryz
namespace Go.Proofs.YtjjdjpdmgaipeaaGreat
open Go.RowKit
theorem RkStep.setNow{w:World}{a:RkAt}{K:Kn}(h:Rkl w a K)(n:Int)(n0:0≤n)(n1:n≤4294967295):RkStep w (w.setCell ⟨a.kb,3,none⟩ (.int .u32 n)) a K a {K with now:=n}:=by
 have hm:Mod (fun k=>k=a.kb) w (w.setCell ⟨a.kb,3,none⟩ (.int .u32 n)):=Mod.setCell (F:=fun i=>i=a.kb) (Mod.refl _ _) ⟨a.kb,3,none⟩ (.inl rfl) _;have b1:=heap_setCell_same w a.kb 3 _ _ (.int .u32 n) h.head;have ne:∀k,a.tag k≠1→¬k=a.kb:=fun k hk e=>hk (e▸h.t1)
 exact⟨{
      head:=b1
      hx:=h.hx.mod hm fun k hn hk=>ne k (by rw[h.t5 k (.inl ⟨hn,hk⟩)];decide)
      caps:=h.caps.mod hm fun k hk=>ne k (by rw[h.t2 k hk];decide)
      nic:=h.nic.mod hm fun k hk=>ne k (by rw[h.t3 k hk];decide)
      len:=h.len
      outer:=h.outer.mod hm fun k hk=>ne k (by rw[h.t5 k (.inr (.inl hk))];decide)
      inner:=fun i v l hv hl=>(h.inner i v l hv hl).mod hm fun k hk=>ne k (by rw[h.t5 k (.inr (.inr ⟨v,List.mem_of_getElem? hv,hk⟩))];decide)
      bl:=h.bl
      ok:=⟨n0,n1,h.ok.bs,h.ok.q,h.ok.hl,h.ok.g0⟩
      t1:=h.t1,t2:=h.t2,t3:=h.t3,t5:=h.t5
      lt:=fun k hk=>Nat.lt_of_lt_of_le (h.lt k hk) hm.size},⟨rfl,rfl,rfl⟩,hm.mono fun i _ g=>by subst g;exact⟨by rw[h.t1];decide,by rw[h.t1];decide⟩,fun _ _=>rfl⟩
theorem arrive_q{S:Ni.NicS}(h:∀x s,s∈S.q x→s.size≤128)(t:ByteArray):∀x s,s∈(Ni.arriveS S t).q x→s.size≤128:=fun x s hs=>by
 unfold Ni.arriveS at hs
 split at hs
 ·rename_i hm
  split at hs
  ·have hs:s∈Ni.updQ S.q (Ni.portV t 22) (S.q (Ni.portV t 22)++[t]) x:=hs;unfold Ni.updQ at hs
   split at hs
   ·rcases List.mem_append.1 hs with g|g
    ·exact h _ s g
    ·simp at g;subst g;unfold Ni.mayB at hm;simp at hm;exact hm.2
   ·exact h x s hs
  ·exact h x s hs
 ·exact h x s hs
theorem arrive_g{S:Ni.NicS}(h:0≤S.gone)(t:ByteArray):0≤(Ni.arriveS S t).gone:=by
 unfold Ni.arriveS
 split
 ·split
  ·exact h
  ·show 0≤S.gone+1
   omega
 ·exact h
theorem arrive_g1{S:Ni.NicS}(t:ByteArray):(Ni.arriveS S t).gone≤S.gone+1:=by
 unfold Ni.arriveS
 split
 ·split
  ·show S.gone≤S.gone+1;omega
  ·show S.gone+1≤S.gone+1;omega
 ·omega
theorem arrive_sent{S:Ni.NicS}(t:ByteArray):(Ni.arriveS S t).sent=S.sent:=by
 unfold Ni.arriveS
 split
 ·split<;>rfl
 ·rfl
theorem Kl.arrive{w:World}{a:KAt}{K:Kn}(h:Knl w a K)(t:ByteArray)(ht:t.size<140737488355328)(g1:K.N.gone<9223372036854775807):
  Calls Tryz.prog 13 #[.pointer (some ⟨a.nb,0,none⟩),.string t] w fun e w'=>e=.returned (.tuple #[.int .u16 (Ni.arriveP t),.bool (Ni.arriveB K.N t),.int .i64 (Ni.arriveE t)])∧∃a',KStep w w' a K a' {K with N:=Ni.arriveS K.N t}:=
 (Ni.arrive h.nic t ht h.ok.g0 g1).mono fun e w' ⟨k1,k2,k3⟩=>⟨k1,_,KStep.setNic h k2 k3 (arrive_q h.ok.q t) (arrive_g h.ok.g0 t)⟩
theorem Rk.arrive{w:World}{a:RkAt}{K:Kn}(h:Rkl w a K)(t:ByteArray)(ht:t.size<140737488355328)(g1:K.N.gone<9223372036854775807):
  Calls Tryz.prog 103 #[.pointer (some ⟨a.n.rb,0,none⟩),.string t] w fun e w'=>e=.returned (.tuple #[.int .u16 (Ni.arriveP t),.bool (Ni.arriveB K.N t),.int .i64 (Ni.arriveE t)])∧∃a',RkStep w w' a K a' {K with N:=Ni.arriveS K.N t}:=
 (Rn.arrive h.nic t ht h.ok.g0 g1).mono fun e w' ⟨k1,k2⟩=>⟨k1,RkStep.setNic h k2 (arrive_q h.ok.q t) (arrive_g h.ok.g0 t)⟩
namespace L22
section
variable {w0 w:World} {a:KAt} {K:Kn} {e:EAt} {E:En} {b:RkAt} {f:RAt} {R:List Rp} {F:En}
def besK(K:Kn)(dn:Int)(t:ByteArray):Kn:=if dn=1 then {K with N:=Ni.arriveS K.N t} else {K with now:=(K.now+1) % 4294967296}
def BesP(w0 w:World)(a:KAt)(K:Kn)(e:EAt)(E:En)(b:RkAt)(f:RAt)(R:List Rp)(F:En)(K':Kn)(w':World):Prop:=
 ∃a' b',Quad w0 w' a' K' e E b' K' f R F∧a'.kb=a.kb∧b'.kb=b.kb
theorem beside(h:Quad w0 w a K e E b K f R F)(dn nm:Int)(c:Nat→Int)(fr:ByteArray)(hfr:fr.size<140737488355328)(hg:K.N.gone<9223372036854775807):
  Calls Tryz.prog 24 #[.pointer (some ⟨a.kb,0,none⟩),.pointer (some ⟨b.kb,0,none⟩),.agg (callC dn nm c fr)] w fun r w'=>r=.returned (.bool true)∧BesP w0 w a K e E b f R F (besK K dn fr) w':=by
 have hb:Below w.heap.size w (w.alloc (.cells (callC dn nm c fr) 51)):=Ba _;have hblk:=heap_alloc_new w (.cells (callC dn nm c fr) 51);have c0:(w.alloc (.cells (callC dn nm c fr) 51)).cell? ⟨w.heap.size,0,none⟩=some (.int .i64 dn):=by unfold World.cell?;rw[hblk];rfl
 have c6:(w.alloc (.cells (callC dn nm c fr) 51)).cell? ⟨w.heap.size,6,none⟩=some (.string fr):=by unfold World.cell?;rw[hblk];rfl
 have HQ:=Lh (h.below hb);have HN:Hid (a.tag w.heap.size=0∧b.tag w.heap.size=0):=Lh ⟨Decidable.byContradiction fun z=>absurd (h.p.kn.lt _ z) (by omega),Decidable.byContradiction fun z=>absurd (h.d.kn.lt _ z) (by omega)⟩;have HBk:=Lh hblk;clear h hb hblk;unfold callC at*;obtain⟨w1,hw1⟩:∃w1,w.alloc (.cells #[.int .i64 dn,.int .u32 nm,.int .u32 (c 0),.int .u32 (c 1),.int .u32 (c 2),.int .u32 (c 3),.string fr] 51)=w1:=⟨_,rfl⟩;obtain⟨bx,hbx⟩:∃bx,w.heap.size=bx:=⟨_,rfl⟩;rw[hw1] at c0 c6 HQ HBk;rw[hbx] at c0 c6 HN HBk
 by_cases d1:dn=1
 ·subst d1;have hK:besK K 1 fr= {K with N:=Ni.arriveS K.N fr}:=if_pos rfl;rw[hK];clear hK;have HFin:Hid (∀W a' b',Quad w0 W a' {K with N:=Ni.arriveS K.N fr} e E b' {K with N:=Ni.arriveS K.N fr} f R F→a'.kb=a.kb→b'.kb=b.kb→BesP w0 w a K e E b f R F {K with N:=Ni.arriveS K.N fr} W):=Lh fun W a' b' k1 k2 k3=>⟨a',b',k1,k2,k3⟩
  have HS:Hid (w1.drew.cell? ⟨bx,6,none⟩=some (.string fr)∧True):=Lh ⟨c6,trivial⟩;go_enter func24,ntmps24;go_wp2_with fail;try rw[hw1]
  try rw[hbx]
  refine B (fun W=>W.cell? ⟨bx,6,none⟩=some (.string fr)∧True) HS.out ?_;intro wd hwd hS;have HQd:=Lh (HQ.out.below (by subst hwd;exact Br.drew:Below w1.heap.size w1 wd));have HBd:Hid (wd.heap[bx]? =_):=Lh (by subst hwd;exact HBk.out);clear hwd HS HQ HBk c0 c6 hw1 hbx;refine T 0 hS ?_;refine T 2 hS ?_;refine T 3 hS ?_;refine U 1 fun K' hK=> ?_
  go_simp;go_at_call 12;refine(Kl.nic HQd.out.p.kn).mono ?_;rintro r w2 ⟨rfl,rfl⟩;refine V hK hS ?_;clear hK K';refine U 4 fun K' hK=> ?_
  go_simp;go_at_call 13;refine(Kl.arrive HQd.out.p.kn fr hfr hg).mono ?_;rintro r w3 ⟨rfl,a',hs3⟩;have hq3:=HQd.out.left hs3;have hbk3:=(hs3.mod.block _ (lQ HBd.out) fun g=>g.1 HN.out.1).trans HBd.out;have hS3:w3.cell? ⟨bx,6,none⟩=some (.string fr)∧True:=⟨by unfold World.cell?;rw[hbk3];rfl,trivial⟩;have HQ3:=Lh hq3;have HB3:=Lh hbk3;have HK3:=Lh hs3.same.1;clear hq3 hbk3 hs3 HQd HBd hS;refine V hK hS3 ?_;clear hK K';refine T 5 hS3 ?_;refine T 6 hS3 ?_;refine T 7 hS3 ?_;refine T 8 hS3 ?_;refine T 9 hS3 ?_;refine T 10 hS3 ?_;refine T 11 hS3 ?_;refine wpAnyH_done (by kernel_rfl) ?_ _;clear hS3;have hcl:=HQ3.out.d.kn.cells;have HC3:=Lh hcl;have HS3:Hid (w3.drew.cell? ⟨bx,6,none⟩=some (.string fr)∧w3.drew.cell? ⟨b.kb,1,none⟩=some (.pointer (some ⟨b.n.rb,0,none⟩))∧True):=Lh ⟨by show w3.cell? _=_;unfold World.cell?;rw[HB3.out];rfl,hcl.2.1,trivial⟩;clear hcl;go_wp2_with fail;refine B (fun W=>W.cell? ⟨bx,6,none⟩=some (.string fr)∧W.cell? ⟨b.kb,1,none⟩=some (.pointer (some ⟨b.n.rb,0,none⟩))∧True) HS3.out ?_;intro we hwe hS;have HQe:=Lh (HQ3.out.below (by subst hwe;exact Br.drew:Below w3.heap.size w3 we));have HBe:Hid (we.heap[bx]? =_):=Lh (by subst hwe;exact HB3.out);clear hwe HS3 HQ3 HB3;refine T 0 hS ?_;refine T 1 hS ?_;refine T 2 hS ?_;refine T 3 hS ?_;refine T 4 hS ?_;refine T 5 hS ?_;clear hS;refine U 6 fun K' hK=> ?_
  go_simp;go_at_call 103;refine(Rk.arrive HQe.out.d.kn fr hfr hg).mono ?_;rintro r w4 ⟨rfl,b',hs4⟩;have hq4:=HQe.out.dleft hs4;have hbk4:=(hs4.mod.block _ (lQ HBe.out) fun g=>g.1 HN.out.2).trans HBe.out;have hk4:=hq4.d.kn.cells;rw[hs4.same.1] at hk4;have hn4:b'.n.rb=b.n.rb:=hs4.same.2.2;have hS4:w4.cell? ⟨bx,6,none⟩=some (.string fr)∧w4.cell? ⟨b.kb,1,none⟩=some (.pointer (some ⟨b.n.rb,0,none⟩))∧True:=⟨by unfold World.cell?;rw[hbk4];rfl,by rw[←hn4];exact hk4.2.1,trivial⟩;have HE:=Lh (HFin.out _ _ _ hq4 HK3.out hs4.same.1);clear hq4 hbk4 hk4 hn4 hs4 HQe HBe;refine V hK hS4 ?_;clear hK K';refine T 7 hS4 ?_;refine T 8 hS4 ?_;refine T 9 hS4 ?_;refine T 10 hS4 ?_;refine T 11 hS4 ?_;refine T 12 hS4 ?_;refine T 13 hS4 ?_;refine wpAnyH_done (by kernel_rfl) ?_ _;clear hS4;go_wp2
  first|exact⟨rfl,HE.out⟩|(go_ret;exact⟨rfl,HE.out⟩)
 ·have hK:besK K dn fr= {K with now:=(K.now+1) % 4294967296}:=if_neg d1;rw[hK];have hd:(dn == 1)=false:=beq_eq_false_iff_ne.2 d1;have HFin:Hid (∀W a' b',Quad w0 W a' {K with now:=(K.now+1) % 4294967296} e E b' {K with now:=(K.now+1) % 4294967296} f R F→a'.kb=a.kb→b'.kb=b.kb→BesP w0 w a K e E b f R F {K with now:=(K.now+1) % 4294967296} W):=Lh fun W a' b' k1 k2 k3=>⟨a',b',k1,k2,k3⟩
  clear hK d1;obtain⟨e0,e1,e2,e3⟩:=HQ.out.d.kn.cells;have ef:=HQ.out.d.kn.free 3;have hst:=RkStep.setNow HQ.out.d.kn ((K.now+1) % 4294967296) (by omega) (by omega);have HQ2:=Lh (HQ.out.dleft hst);have hw:IntKind.u32.wrap (K.now+1)=(K.now+1) % 4294967296:=IntKind.wrap_u32 _;clear hst HN HBk;go_enter func24,ntmps24;try rw[hw1]
  try rw[hbx]
  go_wp2_with fail;refine(Kl.tick HQ2.out.p.kn).mono ?_;rintro r w3 ⟨rfl,hs3⟩;have HE:=Lh (HFin.out _ _ _ (HQ2.out.left hs3) hs3.same.1 rfl);clear hs3 HQ HQ2;go_wp2
  first|exact⟨rfl,HE.out⟩|(go_ret;exact⟨rfl,HE.out⟩)
end
end L22
theorem Kl.do_over{w:World}{a:KAt}{K:Kn}{e:EAt}{E:En}(h:KE w a K e E)(hk:E.kind≠2)(num:Int):
  Calls Tryz.prog 19 #[.pointer (some ⟨a.kb,0,none⟩),.pointer (some ⟨e.eb,0,none⟩),.int .u32 num] w fun r w'=>r=.returned (.tuple #[.agg #[.int .u8 0,.int .i64 0,.string ByteArray.empty,.int .u32 0],.bool false,.int .i64 3])∧Below w.heap.size w w':=by
 have hb0:Below w.heap.size w (w.alloc (.cells #[.int .u8 0,.int .i64 0,.string ByteArray.empty,.int .u32 0] 66)):=Ba _;have hx0:=heap_alloc_new w (.cells #[.int .u8 0,.int .i64 0,.string ByteArray.empty,.int .u32 0] 66);have HSt:=Lh (Ev.state (h.below hb0).en);have hfd:=kindOf E.kind E.code E.why;have HB0:=Lh hb0;have HX0:=Lh hx0;have hkn:(E.kind == 2)=false:=beq_eq_false_iff_ne.2 hk;clear h hb0 hx0;generalize E.kind=kd at*;go_enter func19,ntmps19;go_wp2_with fail;refine HSt.out.mono ?_;rintro r w1 ⟨rfl,hb1⟩;have HB1:=Lh (bQ HB0.out hb1);have hx1:=(hb1.block _ (lQ HX0.out)).trans HX0.out;obtain⟨e0,e1,e2,e3,ef⟩:w1.cell? ⟨w.heap.size,0,none⟩=some (.int .u8 0)∧w1.cell? ⟨w.heap.size,1,none⟩=some (.int .i64 0)∧w1.cell? ⟨w.heap.size,2,none⟩=some (.string ByteArray.empty)∧w1.cell? ⟨w.heap.size,3,none⟩=some (.int .u32 0)∧∀i,w1.frozen? ⟨w.heap.size,i,none⟩=false:=by
  refine⟨?_, ?_, ?_, ?_,fun i=> ?_⟩
  ·unfold World.cell?;rw[hx1];rfl
  ·unfold World.cell?;rw[hx1];rfl
  ·unfold World.cell?;rw[hx1];rfl
  ·unfold World.cell?;rw[hx1];rfl
  ·unfold World.frozen?;rw[hx1];simp
 have HX1:=Lh hx1;clear hb1 HSt HB0 HX0 hx1;go_wp2;have hx2:=Kl.ev_set HX1.out (.int .u8 0) (.int .i64 0) (.string ByteArray.empty) (.int .u32 0);obtain⟨f0,f1,f2,f3⟩:((((w1.setCell ⟨w.heap.size,0,none⟩ (.int .u8 0)).setCell ⟨w.heap.size,1,none⟩ (.int .i64 0)).setCell ⟨w.heap.size,2,none⟩ (.string ByteArray.empty)).setCell ⟨w.heap.size,3,none⟩ (.int .u32 0)).cell? ⟨w.heap.size,0,none⟩=some (.int .u8 0)∧((((w1.setCell ⟨w.heap.size,0,none⟩ (.int .u8 0)).setCell ⟨w.heap.size,1,none⟩ (.int .i64 0)).setCell ⟨w.heap.size,2,none⟩ (.string ByteArray.empty)).setCell ⟨w.heap.size,3,none⟩ (.int .u32 0)).cell? ⟨w.heap.size,1,none⟩=some (.int .i64 0)∧((((w1.setCell ⟨w.heap.size,0,none⟩ (.int .u8 0)).setCell ⟨w.heap.size,1,none⟩ (.int .i64 0)).setCell ⟨w.heap.size,2,none⟩ (.string ByteArray.empty)).setCell ⟨w.heap.size,3,none⟩ (.int .u32 0)).cell? ⟨w.heap.size,2,none⟩=some (.string ByteArray.empty)∧((((w1.setCell ⟨w.heap.size,0,none⟩ (.int .u8 0)).setCell ⟨w.heap.size,1,none⟩ (.int .i64 0)).setCell ⟨w.heap.size,2,none⟩ (.string ByteArray.empty)).setCell ⟨w.heap.size,3,none⟩ (.int .u32 0)).cell? ⟨w.heap.size,3,none⟩=some (.int .u32 0):=by
  refine⟨?_, ?_, ?_, ?_⟩<;>(unfold World.cell?;rw[hx2];rfl)
 have hb:Below w.heap.size w ((((w1.setCell ⟨w.heap.size,0,none⟩ (.int .u8 0)).setCell ⟨w.heap.size,1,none⟩ (.int .i64 0)).setCell ⟨w.heap.size,2,none⟩ (.string ByteArray.empty)).setCell ⟨w.heap.size,3,none⟩ (.int .u32 0)):=(((HB1.out.setCell (Nat.le_refl _) _).setCell (Nat.le_refl _) _).setCell (Nat.le_refl _) _).setCell (Nat.le_refl _) _;refine bodyPost_ret (v:=.tuple #[.agg #[.int .u8 0,.int .i64 0,.string ByteArray.empty,.int .u32 0],.bool false,.int .i64 3]) (by simp[results,Tryz.results19,go_sem, *]) rfl ⟨rfl,hb⟩
namespace L22
open In
theorem exit_num(E:En)(c:Int):(E.exit c).num=E.num:=by unfold En.exit;split<;>rfl
theorem call_num(K:Kn)(E:En)(b:Nat)(num:Int):(Co.call K E b num).E.num=E.num:=by
 unfold Co.call
 repeat' split
 all_goals try rfl
 ·unfold Co.page;repeat' split
  all_goals first|rfl|(unfold En.page;repeat' split)<;>rfl
 ·unfold Co.drop;repeat' split
  all_goals first|rfl|(unfold En.drop;repeat' split)<;>rfl
 ·unfold Co.read
  split
  ·rfl
  ·simp only;split<;>rfl
 ·unfold Co.write
  split
  ·rfl
  ·split<;>rfl
 ·unfold Co.send;repeat' split
  all_goals rfl
 ·unfold Co.recv;repeat' split
  all_goals rfl
 ·unfold Co.put;repeat' split
  all_goals first|rfl|(unfold En.put;repeat' split)<;>rfl
theorem doE_num(K:Kn)(E:En)(b:Nat)(num:Int):(Co.doE K E b num).num=E.num:=by
 unfold Co.doE
 split
 ·exact exit_num E _
 ·exact call_num K E b num
theorem set_rest(K:Kn)(id n:Int)(s:ByteArray):(K.setBlock id n s).hp=K.hp∧(K.setBlock id n s).g=K.g∧(K.setBlock id n s).N=K.N:=by
 unfold Kn.setBlock
 split<;>exact⟨rfl,rfl,rfl⟩
theorem send_len(S:Ni.NicS)(f:ByteArray):(Ni.sendS S f).sent.length≤S.sent.length+1∧(Ni.sendS S f).gone=S.gone:=by
 unfold Ni.sendS
 split
 ·exact⟨by simp,rfl⟩
 ·exact⟨Nat.le_succ _,rfl⟩
theorem pop_len(S:Ni.NicS)(p:Int):(Ni.popS S p).sent.length≤S.sent.length+1∧(Ni.popS S p).gone=S.gone:=by
 unfold Ni.popS
 repeat' split
 all_goals exact⟨Nat.le_succ _,rfl⟩
theorem call_K(K:Kn)(E:En)(b:Nat)(num:Int):(Co.call K E b num).K.hp=K.hp∧(Co.call K E b num).K.N.sent.length≤K.N.sent.length+1∧(Co.call K E b num).K.N.gone=K.N.gone∧∀k,Wi.gm ((Co.call K E b num).K.g k)=Wi.gm (K.g k):=by
 unfold Co.call
 repeat' split
 all_goals try exact⟨rfl,Nat.le_succ _,rfl,fun _=>rfl⟩
 ·unfold Co.page;repeat' split
  all_goals first|exact⟨rfl,Nat.le_succ _,rfl,fun _=>rfl⟩|exact⟨rfl,Nat.le_succ _,rfl,fun k=>Wi.gm_upd (Wi.gm_take _) k⟩
 ·unfold Co.drop;repeat' split
  all_goals first|exact⟨rfl,Nat.le_succ _,rfl,fun _=>rfl⟩|exact⟨rfl,Nat.le_succ _,rfl,fun k=>Wi.gm_upd (Wi.gm_give _) k⟩
 ·unfold Co.read
  split
  ·exact⟨rfl,Nat.le_succ _,rfl,fun _=>rfl⟩
  ·simp only;split<;>exact⟨rfl,Nat.le_succ _,rfl,fun _=>rfl⟩
 ·unfold Co.write
  split
  ·exact⟨rfl,Nat.le_succ _,rfl,fun _=>rfl⟩
  ·split
   ·exact⟨rfl,Nat.le_succ _,rfl,fun _=>rfl⟩
   ·exact⟨(set_rest _ _ _ _).1,by show(Kn.setBlock _ _ _ _).N.sent.length≤_;rw[(set_rest _ _ _ _).2.2];exact Nat.le_succ _,congrArg Ni.NicS.gone (set_rest _ _ _ _).2.2,fun k=>congrArg (fun g=>Wi.gm (g k)) (set_rest _ _ _ _).2.1⟩
 ·unfold Co.send;repeat' split
  all_goals first|exact⟨rfl,Nat.le_succ _,rfl,fun _=>rfl⟩|exact⟨rfl,(send_len _ _).1,(send_len _ _).2,fun _=>rfl⟩
 ·unfold Co.recv;repeat' split
  all_goals first|exact⟨rfl,Nat.le_succ _,rfl,fun _=>rfl⟩|exact⟨rfl,(pop_len _ _).1,(pop_len _ _).2,fun _=>rfl⟩
 ·unfold Co.put;repeat' split
  all_goals exact⟨rfl,Nat.le_succ _,rfl,fun _=>rfl⟩
structure Shp(K:Kn)(i:Nat):Prop where
 hp:K.hp≤4096
 sent:K.N.sent.length≤i
 gone:K.N.gone≤i
 fit:∀id n:Int,0≤id→0≤n→Gp.hasBlock (K.g 1) id n=true→(Kn.block K.B id n).isSome=true
theorem Shp.mono{K:Kn}{i:Nat}(h:Shp K i):Shp K (i+1):=⟨h.hp,Nat.le_succ_of_le h.sent,by have:=h.gone;omega,h.fit⟩
theorem Shp.bes{K:Kn}{i:Nat}(h:Shp K i)(dn:Int)(t:ByteArray):Shp (besK K dn t) (i+1):=by
 unfold besK
 split
 ·exact⟨h.hp,by show(Ni.arriveS K.N t).sent.length≤_;rw[arrive_sent];exact Nat.le_succ_of_le h.sent,by have:=h.gone;have:=arrive_g1 (S:=K.N) t;show(Ni.arriveS K.N t).gone≤_;omega,h.fit⟩
 ·exact⟨h.mono.hp,h.mono.sent,h.mono.gone,h.mono.fit⟩
theorem Shp.doK{K:Kn}{E:En}{i:Nat}(h:Shp K i)(b:Nat)(num:Int):Shp (Co.doK K E b num) (i+1):=by
 obtain⟨e1,e2,e3,e4⟩:(Co.doK K E b num).hp=K.hp∧(Co.doK K E b num).N.sent.length≤K.N.sent.length+1∧(Co.doK K E b num).N.gone=K.N.gone∧∀k,Wi.gm ((Co.doK K E b num).g k)=Wi.gm (K.g k):=by
  unfold Co.doK
  split
  ·exact⟨rfl,Nat.le_succ _,rfl,fun _=>rfl⟩
  ·exact call_K K E b num
 refine⟨by rw[e1];exact h.hp,by have:=h.sent;omega,by rw[e3];have:=h.gone;omega,fun id n i0 n0 hb=> ?_⟩;rw[Wi.doK_some];exact h.fit id n i0 n0 (by rw[←Wi.block_gm (e4 1)];exact hb)
theorem firstE_zero{a b c d:Int}(h:firstE [a,b,c,d]=0):a=0∧b=0:=by
 unfold firstE at h
 by_cases ha:a=0
 ·subst ha
  by_cases hb:b=0
  ·exact⟨rfl,hb⟩
  ·simp[hb] at h
 ·simp[ha] at h
theorem fit_of{hp:Int}{hx:List Int}{m:Mn}(h:Ca.grantE hp hx (fun _=>none) 1 m 0=0)(hm:m.ok){id n:Int}(i0:0≤id)(n0:0≤n)(hb:Gp.hasBlock (some ⟨m,0,0⟩) id n=true):(Kn.block (Kn.new hp hx).B id n).isSome=true:=by
 unfold Ca.grantE at h
 split at h
 ·omega
 ·split at h
  ·rename_i g;simp at g
  ·unfold Ca.grE at h;obtain⟨h1,h2⟩:=firstE_zero h;unfold Gp.hasBlock at hb;simp only at hb;cases hbl:Gp.blocksOf m.ext id with
   |none=>rw[hbl] at hb;cases hb
   |some k=>
    rw[hbl] at hb;have hb:n<k:=of_decide_eq_true hb;unfold Gp.blocksOf at hbl;obtain⟨x,hx1,hx2⟩:=Option.map_eq_some_iff.1 hbl;have hmem:=List.mem_of_find?_eq_some hx1;have hid:x.1=id:=by have:=List.find?_some hx1;simpa using this
    have hno:Ca.extNone m.ext hx.length=false:=by
     unfold Ca.noneE at h1;cases e:Ca.extNone m.ext hx.length with
     |false=>rfl
     |true=>rw[e] at h1;simp at h1
    have hlo:Ca.extLong m.ext hx=false:=by
     unfold Ca.longE at h2;cases e:Ca.extLong m.ext hx with
     |false=>rfl
     |true=>rw[e] at h2;simp at h2
    unfold Ca.extNone at hno;unfold Ca.extLong at hlo;have g1:=List.any_eq_false.1 hno x hmem;have g2:=List.any_eq_false.1 hlo x hmem;simp only[decide_eq_true_eq] at g1;have hlt:x.1<hx.length:=by omega
    simp only[Bool.and_eq_true,decide_eq_true_eq,not_and,hlt,true_implies,forall_const] at g2;obtain⟨i,rfl⟩:=Int.eq_ofNat_of_zero_le i0;obtain⟨j,rfl⟩:=Int.eq_ofNat_of_zero_le n0;have hil:i<hx.length:=by omega
    have hxe:hx.getD x.1.toNat 0=hx[i]:=by
     rw[hid,Int.toNat_natCast,List.getD_eq_getElem?_getD,Zg hil];rfl
    rw[hxe] at g2;have hrow:(Kn.new hp hx).B[i]? =some (List.replicate (hx[i]).toNat z64):=by
     show(hx.map fun n=>List.replicate n.toNat z64)[i]? =_
     rw[List.getElem?_map,Zg hil];rfl
    have hj:j<(hx[i]).toNat:=by omega
    rw[Kn.block_of hrow (List.getElem?_replicate_of_lt hj)];rfl
theorem Shp.asked{d:WdI}{K:Kn}(h:Fresh d K)(hm:d.m.m.ok)(hok:Ca.hardOk d.h.p d.h.l=true):Shp (L22.asked d K) 0:=by
 have hp:d.h.p≤4096:=by
  unfold Ca.hardOk at hok;simp only[Bool.and_eq_true,decide_eq_true_eq] at hok;exact hok.1.1
 unfold L22.asked
 split
 ·rename_i g
  rw[h.hp,h.hx,h.g] at g;refine⟨by show K.hp≤_;rw[h.hp];exact hp,by show K.N.sent.length≤_;rw[h.N];exact Nat.le_refl _,by show K.N.gone≤_;rw[h.N];exact Int.le_refl _,fun id n i0 n0 hb=> ?_⟩
  show(Kn.block K.B id n).isSome=true
  rw[h.B];refine fit_of g hm i0 n0 ?_;have hb:Gp.hasBlock (Gp.upd K.g 1 (some ⟨d.m.m,0,0⟩) 1) id n=true:=hb;rw[Gp.upd_at] at hb;exact hb
 ·refine⟨by rw[h.hp];exact hp,by rw[h.N];exact Nat.le_refl _,by rw[h.N];exact Int.le_refl _,fun id n i0 n0 hb=> ?_⟩;rw[h.g] at hb;cases hb
end L22
open Go.RowKit Word
structure Kpt(w:World)(a:KAt)(e:EAt)(E:En)(b:Nat)(o:Obj):Prop where
 blk:w.heap[b]? =some o
 ta:a.tag b=0
 te:¬e.foot E.A b
namespace Kpt
variable {w w':World} {a a':KAt} {K':Kn} {e e':EAt} {E E':En} {b:Nat} {o:Obj}
theorem step(h:Kpt w a e E b o)(s:JStep w w' a e E.A a' K' e' E'):Kpt w' a' e' E' b o:=by
 obtain⟨h1,h2,h3⟩:=Kl.jblock s h.blk h.ta h.te;exact⟨h1,h2,h3⟩
theorem below(h:Kpt w a e E b o)(hb:Below w.heap.size w w'):Kpt w' a e E b o:=⟨(hb.block _ (lQ h.blk)).trans h.blk,h.ta,h.te⟩
theorem newC{K:Kn}(h:KE w a K e E)(c:Array Value)(t:TypeId):Kpt (w.alloc (.cells c t)) a e E w.heap.size (.cells c t (0,0)):=
 ⟨heap_alloc_new w _,Decidable.byContradiction fun g=>Nat.lt_irrefl _ (h.kn.lt _ g),fun g=>Nat.lt_irrefl _ (h.en.lt _ g)⟩
theorem cell{c:Array Value}{t:TypeId}(h:Kpt w a e E b (.cells c t (0,0)))(i:Nat)(v:Value)(hi:c[i]? =some v):w.cell? ⟨b,i,none⟩=some v:=by
 unfold World.cell?;rw[h.blk];exact hi
end Kpt
structure Al(w0 w:World)(kb cb eb:Nat)(a:KAt)(K:Kn)(e:EAt)(E F:En):Prop where
 k:KEn w0 w a K e E
 l:En.Like E F
 kb:a.kb=kb
 cb:a.c.cb=cb
 eb:e.eb=eb
namespace Al
variable {w0 w w':World} {kb cb eb:Nat} {a:KAt} {K:Kn} {e:EAt} {E F:En}
theorem below(h:Al w0 w kb cb eb a K e E F)(hb:Below w.heap.size w w'):Al w0 w' kb cb eb a K e E F:= {h with k:=h.k.below hb}
theorem evt_like{E F:En}(K:Kn)(h:En.Like E F)(b c:Nat)(num:Int):Kl.evt K E b num=Kl.evt K F c num:=by
 unfold Kl.evt;rw[h.arg,h.num];have g:=Co.like_call K h b c num
 split
 ·rfl
 ·unfold evOf;rw[g.ev,g.s,g.E.num]
def Post(w0 w:World)(kb cb eb:Nat)(a:KAt)(e:EAt)(E:En)(K':Kn)(F':En)(w':World):Prop:=
 ∃a' e' E',Al w0 w' kb cb eb a' K' e' E' F'∧∀b o,Kpt w a e E b o→Kpt w' a' e' E' b o
theorem do'(h:Al w0 w kb cb eb a K e E F)(hk:F.kind=2)(hs:K.N.sent.length<4398046511104)(num:Int)(h0:0≤num)(h1:num≤4294967295)(hn:(Co.doE K F 0 num).num=F.num):
  Calls Tryz.prog 19 #[.pointer (some ⟨kb,0,none⟩),.pointer (some ⟨eb,0,none⟩),.int .u32 num] w fun r w'=>r=.returned (.tuple #[.agg (Kl.evC (Kl.evt K F 0 num)),.bool (Kl.evt K F 0 num).seen,.int .i64 0])∧Post w0 w kb cb eb a e E (Co.doK K F 0 num) (Co.doE K F 0 num) w':=by
 obtain⟨hke,hl,rfl,rfl,rfl⟩:=h;refine(Kl.does hke.ke hke.num (hl.kind.trans hk) hs num h0 h1).mono ?_;rintro r w' ⟨blk,a',e',rfl,hj⟩;have hE:=Co.like_doE K hl blk 0 num;refine⟨by rw[evt_like K hl blk 0 num],a',e',Co.doE K E blk num, ?_,fun b o hb=>hb.step hj⟩;rw[Co.like_doK K hl blk 0 num] at hj;exact⟨hke.step hj (by rw[hE.num,hn,hl.num]),hE,hj.same.1.1,hj.same.1.2.1,hj.same.2.1⟩
theorem set'(h:Al w0 w kb cb eb a K e E F)(c:Nat→Int)(hc:∀i,0≤c i∧c i≤4294967295)(fr:ByteArray):
  Calls Tryz.prog 15 #[.pointer (some ⟨eb,0,none⟩),.pointer none,.agg (callC 0 0 c fr)] w fun r w'=>r=.returned (.tuple #[])∧Post w0 w kb cb eb a e E K {F with r:=regs4 F.r c 4} w':=by
 obtain⟨hke,hl,rfl,rfl,rfl⟩:=h;refine(Kl.set_nil hke.en 0 0 c fr hc).mono ?_;rintro r w' ⟨rfl,hs⟩;have hj:=(JStep.refl hke.ke).right hs;refine⟨rfl,a,e, {E with r:=regs4 E.r c 4},⟨hke.step hj rfl,⟨hl.num,hl.kind,hl.code,hl.why,hl.text,hl.own,hl.A,by show regs4 E.r c 4=regs4 F.r c 4;rw[hl.r],hl.pc⟩,rfl,rfl,rfl⟩,fun b o hb=>hb.step hj⟩
theorem arg(h:Al w0 w kb cb eb a K e E F)(n:Int)(n0: -9223372036854775808≤n)(n1:n≤9223372036854775807):Calls Tryz.prog 22 #[.pointer (some ⟨eb,0,none⟩),.int .i64 n] w fun r w'=>r=.returned (.int .u32 (F.arg n))∧w=w':=by
 obtain⟨hke,hl,rfl,rfl,rfl⟩:=h;rw[←hl.arg];exact Ev.arg hke.en n n0 n1
theorem console(h:Al w0 w kb cb eb a K e E F):Calls Tryz.prog 68 #[.pointer (some ⟨eb,0,none⟩)] w fun r w'=>r=.returned (.string F.text)∧w=w':=by
 obtain⟨hke,hl,rfl,rfl,rfl⟩:=h;rw[←hl.text];exact Ev.console hke.en
end Al
namespace Cp
def hi22:ByteArray:=⟨#[104,105]⟩
def perm22:Nat→Int:=fun i=>if i=0 then 8 else 1
def code22:Nat→Ins:=fun _=>⟨0,0,0,0,0⟩
def st22(B:Nat):St:=⟨none,0,0,fun _=>0,0,some ⟨B,0,none⟩,2,2,perm22,0,none,0,0,code22,256,hi22⟩
def en22:En:=⟨1,2,0,0,ByteArray.empty,[],madeA perm22 2 0 (strOfNums (textL code22 0)) 256 hi22,regsK (fun _=>0) (min 0 16),0⟩
def c22(x y:Int):Nat→Int:=fun i=>if i=0 then x else if i=1 then y else 0
def k22:Kn:= {Kn.new 4 [] with g:=Gp.upd (fun _=>none) 1 (some ⟨⟨0,[],[],true⟩,0,0⟩)}
def en22a:En:= {en22 with r:=regs4 en22.r (c22 256 2) 4}
def en22b:En:=Co.doE k22 en22a 0 9
def en22c:En:= {en22b with r:=regs4 en22b.r (c22 256 24) 4}
def en22d:En:=Co.doE k22 en22c 0 7
def en22e:En:= {en22d with r:=regs4 en22d.r (c22 512 0) 4}
def en22f:En:=Co.doE k22 en22e 0 3
def en22g:En:=Co.doE k22 en22f 0 99
theorem k22a:Co.doK k22 en22a 0 9=k22:=by kernel_rfl
theorem k22b:Co.doK k22 en22c 0 7=k22:=by kernel_rfl
theorem k22c:Co.doK k22 en22e 0 3=k22:=by kernel_rfl
theorem k22d:Co.doK k22 en22f 0 99=k22:=by kernel_rfl
theorem v22a:Kl.evt k22 en22a 0 9=⟨1,1,hi22,0,true⟩:=by kernel_rfl
theorem v22b:Kl.evt k22 en22c 0 7=⟨0,0,ByteArray.empty,0,false⟩:=by kernel_rfl
theorem v22n:(en22a.kind,en22b.num,en22c.kind,en22d.num,en22e.kind,en22f.num,en22f.kind,en22g.num)=(2,1,2,1,2,1,2,1):=by kernel_rfl
theorem v22r:(en22b.arg 1,en22b.arg 2,en22d.arg 2,en22f.arg 2,en22g.arg 2,en22g.text)=(2,0,1,4,6,hi22):=by kernel_rfl
theorem made22a(W:World)(B:Nat)(h:W.heap[B]? =some (.cells #[.int .u8 8,.int .u8 1] 5 (0,0))):
  Calls Tryz.prog 11 #[.agg (st22 B).cells] W fun e w'=>∃a E b R F,e=.returned (.tuple #[.pointer (some ⟨a.eb,0,none⟩),.pointer (some ⟨b.eb,0,none⟩),.bool true])∧EPair W w' a E b R F∧En.Like E en22:=by
 refine(made22 W (st22 B) ?_).mono ?_
 ·refine⟨fun h=>absurd h (by simp[st22]),fun i hi=>absurd hi (by simp[st22]),by simp[st22],by simp[st22],by simp[st22],fun _=>⟨B,0,rfl,lQ h,fun i hi=> ?_⟩,fun i hi=> ?_,by simp[st22],by simp[st22],by simp[st22],fun h=>absurd h (by simp[st22]),fun i hi=>absurd hi (by simp[st22]),by simp[st22],by simp[st22],by simp[st22],by simp[st22,hi22];decide⟩
  ·have:i=0∨i=1:=by simp only[st22] at hi;omega
   unfold World.cell?;rw[h];rcases this with rfl|rfl<;>rfl
  ·have:i=0∨i=1:=by simp only[st22] at hi;omega
   rcases this with rfl|rfl<;>exact⟨by simp[st22,perm22],by simp[st22,perm22]⟩
 ·rintro e w' ⟨a,E,b,R,F,h1,h2,_,h3⟩;exact⟨a,E,b,R,F,h1,h2,h3⟩
end Cp
open Go.RowKit Word
namespace Cp
theorem eqEv(k n m:Int)(s:ByteArray)(w:World):(binOp .eql 66 (.agg #[.int .u8 k,.int .i64 n,.string s,.int .u32 m]) (.agg #[.int .u8 k,.int .i64 n,.string s,.int .u32 m])).run Tryz.prog w=.ok (.bool true) w:=by
 simp[go_sem,Tryz.underlying66]
theorem call22(x y:Int):callC 0 0 (c22 x y) ByteArray.empty= #[.int .i64 0,.int .u32 0,.int .u32 x,.int .u32 y,.int .u32 0,.int .u32 0,.string ByteArray.empty]:=by simp[callC,c22]
theorem c22_bd(x y:Int)(x0:0≤x)(x1:x≤4294967295)(y0:0≤y)(y1:y≤4294967295)(i:Nat):0≤c22 x y i∧c22 x y i≤4294967295:=by
 unfold c22
 split
 ·exact⟨x0,x1⟩
 ·split
  ·exact⟨y0,y1⟩
  ·omega
theorem gr22:(Ca.grantE 4 [] (fun _=>none) 1 ⟨0,[],[],true⟩ 0,Ca.hardOk 4 [])=(0,true):=by kernel_rfl
theorem words_nil(w:World):Rs.Words w none []:=by
 constructor
 ·exact fun i hi=>absurd hi (Nat.not_lt_zero _)
 ·simp
theorem alive22(w:World):Calls Tryz.prog 9 #[] w fun e w'=>e=.returned (.bool true)∧Below w.heap.size w w':=by
 obtain⟨g1,g3⟩:=(by have:=gr22;simpa only[Prod.mk.injEq] using this:_∧_);obtain⟨n1,n2,n3,n4,n5,n6,n7,n8⟩:=(by have:=v22n;simpa only[Prod.mk.injEq] using this:_∧_∧_∧_∧_∧_∧_∧_);obtain⟨r1,r2,r3,r4,r5,r6⟩:=(by have:=v22r;simpa only[Prod.mk.injEq] using this:_∧_∧_∧_∧_∧_);have HG:=Lh g1;have NN:=Lh (⟨n1,n2,n3,n4,n5,n6,n7,n8⟩:_∧_∧_∧_∧_∧_∧_∧_);have RR:=Lh (⟨r1,r2,r3,r4,r5,r6⟩:_∧_∧_∧_∧_∧_);have HNew:=Lh (Kl.new (a:=none) (cap:=0) (hp:=4) (words_nil w) (by simp) (by omega) g3);clear g1 g3 n1 n2 n3 n4 n5 n6 n7 n8 r1 r2 r3 r4 r5 r6;go_enter func9,ntmps9;go_wp2_with fail;refine HNew.out.mono ?_;rintro r w1 ⟨a,rfl,hk,ht,hb⟩;have HK1:=Lh (And.intro hk (And.intro ht hb));clear hk ht hb HNew;go_wp2_with fail;refine(Kl.caps HK1.out.1).mono ?_;rintro r w2 ⟨rfl,rfl⟩;go_wp2_with fail;refine(Kl.caps HK1.out.1).mono ?_;rintro r w2 ⟨rfl,rfl⟩;go_wp2_with fail;refine(Kl.grant HK1.out.1 (by decide) (by decide) (n:=1) (pg:=0) (Int.le_refl 0) (m:=⟨0,[],[],true⟩) (ev:=.slice none 0 0) (pv:=.slice none 0 0) ⟨SlV.nil _ _ _,SlV.nil _ _ _⟩ ⟨Int.le_refl 0,by decide,fun x hx=>(nomatch hx),fun x hx=>(nomatch hx)⟩).mono ?_;rintro r w2 (⟨g,_⟩|⟨_,rfl,a2,hs⟩)
 ·exact absurd HG.out g
 have hk2:=hs.k;have hbel:Below w.heap.size w w2:=Mod.below HK1.out.2.2 hs.mod HK1.out.2.2.size fun k _ hk=>HK1.out.2.1 k hk.1
 have ht2:∀k,a2.tag k≠0→w.heap.size≤k:=fun k hk=>by
  rcases hs.foot k hk with g|g
  ·exact HK1.out.2.1 k g
  ·have:=HK1.out.2.2.size;omega
 have HK2:Hid (Knl w2 a2 k22∧(∀k,a2.tag k≠0→w.heap.size≤k)∧Below w.heap.size w w2∧a2.kb=a.kb):=Lh ⟨hk2,ht2,hbel,hs.same.1⟩;clear hk2 hbel ht2 hs HK1 HG;have hP:Below w2.heap.size w2 (w2.alloc (.cells #[.int .u8 8,.int .u8 1] 5)):=Ba _;have HM:=Lh (made22a _ _ (heap_alloc_new w2 (.cells #[.int .u8 8,.int .u8 1] 5)));have HP:=Lh hP;clear hP;unfold st22 St.cells hi22 at HM;go_wp2_with fail;refine HM.out.mono ?_;rintro r w3 ⟨e,E,b,R,F,rfl,hp,hl⟩;have hal:Al w w3 a.kb a2.c.cb e.eb a2 k22 e E en22:=by
  have hb23:=bQ HP.out hp.bel;have hk3:=HK2.out.1.below hb23;refine⟨⟨hk3,hp.env,fun x hx=> ?_,bQ HK2.out.2.2.1 hb23,HK2.out.2.1,fun x hx=> ?_,(by rw[hl.num];exact⟨by decide,by decide⟩)⟩,hl,HK2.out.2.2.2,rfl,rfl⟩
  ·have h1:=hp.a0 x hx;exact Decidable.byContradiction fun g=>by
    have h2:=HK2.out.1.lt x g;have h3:=HP.out.size;omega
  ·have h1:=hp.a0 x hx;have h2:=HK2.out.2.2.1.size;have h3:=HP.out.size;omega
 have HA0:=Lh hal;clear hal hp hl HM HP HK2;have hc:=HA0.out.set' (c22 256 2) (c22_bd 256 2 (by omega) (by omega) (by omega) (by omega)) ByteArray.empty;rw[call22] at hc;have HC:=Lh hc;clear hc;go_wp2_with fail;refine HC.out.mono ?_;rintro r w4 ⟨rfl,a4,e4,E4,hal,hkp⟩;have HA4:Hid (Al _ _ _ _ _ _ _ _ _ en22a):=Lh hal;clear hal hkp HC HA0;have hc:=HA4.out.do' NN.out.1 (by decide) 9 (by omega) (by omega) NN.out.2.1
 rw[k22a,v22a] at hc;have HC:=Lh hc;clear hc;unfold Kl.evC hi22 at HC;go_wp2_with fail;refine HC.out.mono ?_;rintro r w5 ⟨rfl,a5,e5,E5,hal,hkp⟩;have HA5:Hid (Al _ _ _ _ _ _ _ _ _ en22b):=Lh hal;have HA6:=Lh (HA5.out.below (w':=w5.alloc (.cells #[.int .u8 1,.int .i64 1,.string ⟨#[104,105]⟩,.int .u32 0] 66)) (Ba _));have HX6:=Lh (Kpt.newC hal.k.ke #[.int .u8 1,.int .i64 1,.string ⟨#[104,105]⟩,.int .u32 0] 66);clear hal hkp HC HA4 HA5;go_wp2_with fail;refine(HA6.out.arg 1 (by omega) (by omega)).mono ?_;rintro r w6 ⟨rfl,rfl⟩;rw[RR.out.1];go_wp2_with fail;refine(HA6.out.arg 2 (by omega) (by omega)).mono ?_;rintro r w6 ⟨rfl,rfl⟩;rw[RR.out.2.1];generalize hw6:w5.alloc (.cells #[.int .u8 1,.int .i64 1,.string ⟨#[104,105]⟩,.int .u32 0] 66)=w6 at*;generalize w5.heap.size=xb at*;clear hw6 w5;have hc:=HA6.out.set' (c22 256 24) (c22_bd 256 24 (by omega) (by omega) (by omega) (by omega)) ByteArray.empty;rw[call22] at hc;have HC:=Lh hc;clear hc;go_wp2_with fail;refine HC.out.mono ?_;rintro r w7 ⟨rfl,a7,e7,E7,hal,hkp⟩;have HA7:Hid (Al _ _ _ _ _ _ _ _ _ en22c):=Lh hal;have HX7:=Lh (hkp _ _ HX6.out);clear hal hkp HC HA6;have hc:=HA7.out.do' NN.out.2.2.1 (by decide) 7 (by omega) (by omega) NN.out.2.2.2.1
 rw[k22b,v22b] at hc;have HC:=Lh hc;clear hc;unfold Kl.evC at HC;go_wp2_with fail;refine HC.out.mono ?_;rintro r w8 ⟨rfl,a8,e8,E8,hal,hkp⟩;have HA8:Hid (Al _ _ _ _ _ _ _ _ _ en22d):=Lh hal;have hX8:=hkp _ _ HX7.out;have hb9:Below w8.heap.size w8 (w8.alloc (.cells #[.int .u8 0,.int .i64 0,.string ByteArray.empty,.int .u32 0] 66)):=Ba _;have HA9:=Lh (HA8.out.below hb9);have HX9:=Lh (hX8.below hb9);clear hal hkp HC HA7 HA8 hX8 hb9 HX7;go_wp2_with fail;refine(HA9.out.arg 2 (by omega) (by omega)).mono ?_;rintro r w9 ⟨rfl,rfl⟩;rw[RR.out.2.2.1];generalize hw9:w8.alloc (.cells #[.int .u8 0,.int .i64 0,.string ByteArray.empty,.int .u32 0] 66)=w9 at*;generalize w8.heap.size=yb at*;clear hw9 w8;have hc:=HA9.out.set' (c22 512 0) (c22_bd 512 0 (by omega) (by omega) (by omega) (by omega)) ByteArray.empty;rw[call22] at hc;have HC:=Lh hc;clear hc;go_wp2_with fail;refine HC.out.mono ?_;rintro r w10 ⟨rfl,a10,e10,E10,hal,hkp⟩;have HA10:Hid (Al _ _ _ _ _ _ _ _ _ en22e):=Lh hal;have HX10:=Lh (hkp _ _ HX9.out);clear hal hkp HC HA9;have hc:=HA10.out.do' NN.out.2.2.2.2.1 (by decide) 3 (by omega) (by omega) NN.out.2.2.2.2.2.1
 rw[k22c] at hc;have HC:=Lh hc;clear hc;go_wp2_with fail;refine HC.out.mono ?_;rintro r w11 ⟨rfl,a11,e11,E11,hal,hkp⟩;have HA11:Hid (Al _ _ _ _ _ _ _ _ _ en22f):=Lh hal;have HX11:=Lh (hkp _ _ HX10.out);clear hal hkp HC HA10 HX10;go_wp2_with fail;refine(HA11.out.arg 2 (by omega) (by omega)).mono ?_;rintro r w12 ⟨rfl,rfl⟩;rw[RR.out.2.2.2.1];have hc:=HA11.out.do' NN.out.2.2.2.2.2.2.1 (by decide) 99 (by omega) (by omega) NN.out.2.2.2.2.2.2.2
 rw[k22d] at hc;have HC:=Lh hc;clear hc;go_wp2_with fail;refine HC.out.mono ?_;rintro r w13 ⟨rfl,a13,e13,E13,hal,hkp⟩;have HA13:Hid (Al _ _ _ _ _ _ _ _ _ en22g):=Lh hal;have HX13:=Lh (hkp _ _ HX11.out);clear hal hkp HC HA11 HX11;have x0:=HX13.out.cell 0 _ rfl;have x1:=HX13.out.cell 1 _ rfl;have x2:=HX13.out.cell 2 _ rfl;have x3:=HX13.out.cell 3 _ rfl;have hq:=eqEv 1 1 0 ⟨#[104,105]⟩ w13;go_wp2_with fail;refine(HA13.out.arg 2 (by omega) (by omega)).mono ?_;rintro r w14 ⟨rfl,rfl⟩;rw[RR.out.2.2.2.2.1];clear x0 x1 x2 x3 hq;go_wp2_with fail;refine HA13.out.console.mono ?_;rintro r w14 ⟨rfl,rfl⟩;rw[RR.out.2.2.2.2.2];unfold hi22;go_wp2;go_ret;exact⟨rfl,HA13.out.k.bel⟩
end Cp
namespace Ca
variable {w:World} {a:CAt} {hp:Int} {G:Int→Option Gr}
theorem release(h:Cps w a hp G)(n:Int)(hn:I64 n):Calls Tryz.prog 29 #[.pointer (some ⟨a.cb,0,none⟩),.int .i64 n] w fun e w'=>(∃y,e=.returned (.int .i64 y))∧Mod (fun k=>k=a.mb) w w':=by
 have K:=Maps.int_keyed (P:=Tryz.prog) Tryz.underlying3;have hk:=Maps.keyOf_int_mk (P:=Tryz.prog) Tryz.underlying3 hn.wf;have hlk:=h.look hn;obtain⟨D,m,ho,hv,hs⟩:=h.map;obtain⟨c0,c1,c2⟩:=h.cells;have Ht:=Lh (own_tight ho);have HKk:=Lh hk;clear h ho hv hs hk;cases hg:G n with
 |none=>
  rw[hg] at hlk;go_enter func29,ntmps29;go_wp2;go_ret;exact⟨⟨_,rfl⟩,Mod.refl _ _⟩
 |some g=>
  rw[hg] at hlk;go_enter func29,ntmps29;go_wp2_with (at_delete;(refine wpList_delete_own _ (by rfl) _ _ 192 3 (by rfl) 191 K Tryz.underlying192 ptrElem a.mb _ D (by rfl) Ht.out (.int .i64 n) (.int .i64 n) (by rfl) HKk.out ?_;intro w2 ho2 hmt2));have hg:=hmt2.grown;have hm:Mod (fun k=>k=a.mb) w w2:=⟨hg.os,hg.tape,hg.output,hg.size,fun k hk hn=>hg.block k hk (by simpa using hn)⟩
  first|exact⟨⟨_,rfl⟩,hm⟩|(go_ret;exact⟨⟨_,rfl⟩,hm⟩)
end Ca
namespace Ni
theorem droppedC{w:World}{nb mb:Nat}{V:Int→Value}{sv:Value}{S:NicS}(h:Nc w nb mb V sv S):Calls Tryz.prog 118 #[.pointer (some ⟨nb,0,none⟩)] w fun e w'=>e=.returned (.int .i64 S.gone)∧w=w':=by
 have hc:=h.cellGone;clear h;go_enter func118,ntmps118;go_wp2;go_ret;exact⟨rfl,rfl⟩
theorem sentC{w:World}{nb mb:Nat}{V:Int→Value}{sv:Value}{S:NicS}(h:Nc w nb mb V sv S)(hs:S.sent.length≤2000000):
  Calls Tryz.prog 95 #[.pointer (some ⟨nb,0,none⟩)] w fun e w'=>∃v,e=.returned v∧SlV w' 9 1 v S.sent.length (S.sent.map .string)∧Below w.heap.size w w':=by
 have hc:=h.cellSent;have hsl:=h.sent;obtain⟨so,sc,rfl⟩:=hsl.form;have HC:=Lh (Cl.clone_str (cap:=sc) (n:=S.sent.length) (by simp) (slv_at hsl) hs (fun u hu=>by obtain⟨f,_,rfl⟩:=List.mem_map.1 hu;rfl));clear h hsl;go_enter func95,ntmps95;go_wp2_with fail;refine HC.out.mono ?_;rintro e w2 ⟨v,rfl,h1,_,h2⟩;have HH:=Lh (And.intro h1 h2);clear h1 h2 HC;go_wp2;go_ret;exact⟨_,rfl,HH.out.1,HH.out.2⟩
end Ni
namespace Rn
def smRel(w:World)(n:Nat)(vi:Value)(wr:World):Prop:=∃i:Nat,i≤n∧vi=.int .i64 i∧Below w.heap.size w wr
theorem sameTexts{w:World}{v u:Value}{l:List ByteArray}(hv:SlV w 9 1 v l.length (l.map .string))(hu:SlV w 9 1 u l.length (l.map .string)):
  Calls Tryz.prog 117 #[v,u] w fun e w'=>e=.returned (.bool true)∧Below w.heap.size w w':=by
 have hln:=slv_len hv;unfold maxLen at hln;obtain⟨a,ac,rfl⟩:=hv.form;obtain⟨b,bc,rfl⟩:=hu.form;have HA:=Lh fun W (hW:Below w.heap.size w W)=>Cl.At.below (slv_at hv) hW
 have HB:=Lh fun W (hW:Below w.heap.size w W)=>Cl.At.below (slv_at hu) hW
 have HLn:=Lh hln;have HR0:Hid (smRel w l.length (.int .i64 0) w):=Lh ⟨0,Nat.zero_le _,rfl,Below.refl _ _⟩;clear hv hu hln;go_enter func117,ntmps117;go_wp2;go_loopw [5] (fun vi wr=>smRel w l.length vi wr) (fun vi _=>l.length - (intOf vi).toNat)
 case atStart=>exact HR0.out
 case round=>
  clear HR0;obtain⟨i,hi,rfl,hb⟩:=hrel;have HBw:=Lh hb;clear hb
  by_cases hin:i<l.length
  ·have ii:(i:Int)<l.length:=by omega
   have hx:(l.map Value.string)[i]? =some (.string l[i]):=by rw[List.getElem?_map,Zg hin];rfl
   obtain⟨g1,o1,e1,hc1⟩:=HA.out wr HBw.out i _ hx;obtain⟨g2,o2,e2,hc2⟩:=HB.out wr HBw.out i _ hx;subst e1;subst e2;have iw:IntKind.i64.wrap ((i:Int)+1)=(i:Int)+1:=by have:=HLn.out;rw[IntKind.wrap_i64];omega
   have fin:∀W,Below wr.heap.size wr W→smRel w l.length (.int .i64 ((i:Int)+1)) W:=fun W hW=>⟨i+1,hin,by simp,bQ HBw.out hW⟩
   have Fin:=Lh fin;generalize l[i]=t at*;have HS:Hid (∀W,Below wr.heap.size wr W→W.cell? ⟨g1,o1+i,none⟩=some (.string t)∧W.cell? ⟨g2,o2+i,none⟩=some (.string t)∧True):=Lh fun W hW=>⟨cQ hW hc1,cQ hW hc2,trivial⟩
   clear hx hc1 hc2 fin;go_wp2_with fail;refine B (fun W=>W.cell? ⟨g1,o1+i,none⟩=some (.string t)∧W.cell? ⟨g2,o2+i,none⟩=some (.string t)∧True) (HS.out _ Br.drew) ?_;intro wd hwd hS;have HD:Hid (Below wr.heap.size wr wd):=Lh (by subst hwd;exact Br.drew);clear hwd;refine T 0 hS ?_;refine T 1 hS ?_;refine T 2 hS ?_;refine T 3 hS ?_;refine T 4 hS ?_;refine T 5 hS ?_;refine T 6 hS ?_;refine T 7 hS ?_;refine T 8 hS ?_;clear hS;refine wpAnyH_done (by kernel_rfl) ?_ _;go_wp2;exact⟨Fin.out _ HD.out,by simp[intOf];omega⟩
  ·obtain rfl:i=l.length:=by omega
   have ii:¬(l.length:Int)<l.length:=by omega
   go_wp2
   first|exact⟨rfl,HBw.out⟩|(go_ret;exact⟨rfl,HBw.out⟩)
end Rn
namespace L22
def saO(w:World)(K:Kn)(vi:Value)(wr:World):Prop:=∃i:Nat,i≤K.B.length∧vi=.int .i64 i∧Below w.heap.size w wr
def saI(w:World)(l:List ByteArray)(vi:Value)(wr:World):Prop:=∃i:Nat,i≤l.length∧vi=.int .i64 i∧Below w.heap.size w wr
section
variable {w:World} {a:KAt} {b:RkAt} {K:Kn}
theorem same(hk:Knl w a K)(hr:Rkl w b K)(hs:K.N.sent.length≤2000000)(hp1:K.hp≤4096):Calls Tryz.prog 32 #[.pointer (some ⟨a.kb,0,none⟩),.pointer (some ⟨b.kb,0,none⟩)] w fun e w'=>e=.returned (.bool true)∧Below w.heap.size w w':=by
 have HK:=Lh fun W (hW:Below w.heap.size w W)=>hk.below hW
 have HR:=Lh fun W (hW:Below w.heap.size w W)=>hr.below hW
 have HBl:=Lh hr.bl;obtain⟨bo,bc,hbv⟩:=hr.outer.form;rw[hr.len] at hbv;have HBv:=Lh hbv;obtain⟨so,sc,hsv⟩:=hr.nic.out.form;have hS0:∀W,Below w.heap.size w W→W.cell? ⟨b.kb,3,none⟩=some (.int .u32 K.now)∧W.cell? ⟨b.kb,0,none⟩=some (.pointer (some ⟨b.c.rb,0,none⟩))∧W.cell? ⟨b.kb,1,none⟩=some (.pointer (some ⟨b.n.rb,0,none⟩))∧W.cell? ⟨b.n.rb,1,none⟩=some (.slice so K.N.sent.length sc)∧W.cell? ⟨b.n.rb,2,none⟩=some (.int .i64 K.N.gone)∧True:=fun W hW=>by
  obtain⟨e0,e1,e2,e3⟩:=(hr.below hW).cells;obtain⟨f0,f1,f2,_⟩:=(hr.below hW).nic.cells;exact⟨e3,e0,e1,by rw[f1,hsv],f2,trivial⟩
 have HS:=Lh hS0;have hO0:∀W,Below w.heap.size w W→W.cell? ⟨b.kb,2,none⟩=some (.slice bo K.B.length bc):=fun W hW=>by
  rw[←hbv];exact(hr.below hW).cells.2.2.1
 have HO:=Lh hO0;have HSo:Hid (∀W,Below w.heap.size w W→SlV W 9 1 (.slice so K.N.sent.length sc) K.N.sent.length (K.N.sent.map Value.string)):=Lh fun W hW=>by rw[←hsv];exact(hr.below hW).nic.out
 have HSl:=Lh hs;have HP1:=Lh hp1;have HR0:Hid (saO w K (.int .i64 0) w):=Lh ⟨0,Nat.zero_le _,rfl,Below.refl _ _⟩;have c2:=hO0 w Br;clear hk hr hbv hsv hS0 hs hp1 hO0;go_enter func32,ntmps32;go_wp2;clear c2;go_loopw [5,6,7,8] (fun vi _ _ _ wr=>saO w K vi wr) (fun vi _ _ _ _=>K.B.length - (intOf vi).toNat)
 case atStart=>exact HR0.out
 case round=>
  clear HR0;obtain⟨i,hi,rfl,hb⟩:=hrel;have HBw:=Lh hb;have c2:=HO.out wr hb;clear hb
  by_cases hin:i<K.B.length
  ·have ii:(i:Int)<K.B.length:=by omega
   have hl:K.B[i]? =some K.B[i]:=Zg hin;have hll:=HBl.out.2 i _ hl;have HL:=Lh hl;have HR1:Hid (saI w K.B[i] (.int .i64 0) wr):=Lh ⟨0,Nat.zero_le _,rfl,HBw.out⟩;generalize K.B[i]=l at*;have HLl:=Lh hll;obtain⟨g0,off0,cap0,o,rc,e0,e0',hrw,e0''⟩:=(HR.out wr HBw.out).row_at hl;have HRow:=Lh hrw;have HRA:Hid (∀W,Below w.heap.size w W→∃g off,bo=some ⟨g,off,none⟩∧W.cell? ⟨g,off+i,none⟩=some (.slice o l.length rc)∧SlV W 9 1 (.slice o l.length rc) l.length (l.map .string)):=Lh fun W hW=>by
    obtain⟨g,off,cap,o',rc',q1,q2,q3,q4⟩:=(HR.out W hW).row_at HL.out;rw[HBv.out] at q1;rw[HRow.out] at q3;cases q3;cases q1;exact⟨g,off,rfl,q2,q4⟩
   clear hl hll e0 e0' e0'' hrw;go_wp2;clear c2 HBw;generalize wr=wo at*;go_loopw [6,7,8] (fun vi _ _ wr=>saI w l vi wr) (fun vi _ _ _=>l.length - (intOf vi).toNat)
   case atStart=>exact HR1.out
   case round=>
    clear HR1;obtain⟨j,hj,rfl,hb⟩:=hrel;have HBw:=Lh hb;have c2:=HO.out wr hb;obtain⟨g,off,ea,hc,hsl⟩:=HRA.out wr hb;have hb16:=HBl.out.1;have hl1024:=HLl.out;have wi:IntKind.u32.wrap (i:Int)=i:=wrap32 (by omega) (by omega);have wj:IntKind.u32.wrap (j:Int)=j:=wrap32 (by omega) (by omega);subst ea;clear hb
    by_cases hjn:j<l.length
    ·have jj:(j:Int)<l.length:=by omega
     have hx:(l.map Value.string)[j]? =some (.string l[j]):=by rw[List.getElem?_map,Zg hjn];rfl
     obtain⟨g1,o1,e1,hc1⟩:=slv_at hsl j _ hx;subst e1;have hblk:Kn.block K.B i j=some l[j]:=Kn.block_of HL.out (Zg hjn);have hcl:=Kl.block (HK.out wr HBw.out) (i:Int) (j:Int) (by omega) (by omega) (by omega) (by omega);rw[hblk] at hcl;have HCl:=Lh hcl;have fin:saI w l (.int .i64 ((j:Int)+1)) wr:=⟨j+1,hjn,by simp,HBw.out⟩;have Fin:=Lh fin;have jw:IntKind.i64.wrap ((j:Int)+1)=(j:Int)+1:=by rw[IntKind.wrap_i64];omega
     generalize l[j]=t at*;clear hx hblk hcl fin hsl;go_wp2_with fail;refine HCl.out.mono ?_;rintro e w2 ⟨rfl,rfl⟩;unfold Kl.blkS Kl.blkE;simp only[Option.getD_some];go_wp2;exact⟨Fin.out,by simp[intOf];omega⟩
    ·obtain rfl:j=l.length:=by omega
     have jj:¬(l.length:Int)<l.length:=by omega
     have iw:IntKind.i64.wrap ((i:Int)+1)=(i:Int)+1:=by rw[IntKind.wrap_i64];omega
     have fin:saO w K (.int .i64 ((i:Int)+1)) wr:=⟨i+1,by have:=(List.getElem?_eq_some_iff.1 HL.out).1;omega,by simp,HBw.out⟩;have Fin:=Lh fin;clear fin hsl;go_wp2;exact⟨Fin.out,by simp[intOf];omega⟩
  ·obtain rfl:i=K.B.length:=by omega
   have ii:¬(K.B.length:Int)<K.B.length:=by omega
   go_wp2_with fail;clear c2;refine B (fun W=>W.cell? ⟨b.kb,3,none⟩=some (.int .u32 K.now)∧W.cell? ⟨b.kb,0,none⟩=some (.pointer (some ⟨b.c.rb,0,none⟩))∧W.cell? ⟨b.kb,1,none⟩=some (.pointer (some ⟨b.n.rb,0,none⟩))∧W.cell? ⟨b.n.rb,1,none⟩=some (.slice so K.N.sent.length sc)∧W.cell? ⟨b.n.rb,2,none⟩=some (.int .i64 K.N.gone)∧True) (HS.out _ (HBw.out.trans (Br.drew.mono HBw.out.size))) ?_;intro wd hwd hS;have HB0:Hid (Below w.heap.size w wd):=Lh (by subst hwd;exact HBw.out.drew);clear hwd HBw;refine T 0 hS ?_;refine T 2 hS ?_;refine T 3 hS ?_;refine T 4 hS ?_;refine T 5 hS ?_;refine U 1 fun K' hK=> ?_
   have HX:=Lh (Kl.now (HK.out _ HB0.out));go_simp;go_at_call 114;refine HX.out.mono ?_;rintro e w1 ⟨rfl,rfl⟩;clear HX;refine V hK hS ?_;clear hK K';refine T 6 hS ?_;refine T 7 hS ?_;refine T 8 hS ?_;refine T 11 hS ?_;refine T 12 hS ?_;refine T 13 hS ?_;refine T 14 hS ?_;refine U 9 fun K' hK=> ?_
   have HX:=Lh (Kl.caps (HK.out _ HB0.out));go_simp;go_at_call 25;refine HX.out.mono ?_;rintro e w1 ⟨rfl,rfl⟩;clear HX;refine V hK hS ?_;clear hK K';refine U 10 fun K' hK=> ?_
   have HX:=Lh (Ca.left (HK.out _ HB0.out).caps (n:=1) ⟨by decide,by decide⟩);go_simp;go_at_call 100;refine HX.out.mono ?_;rintro e w1 ⟨rfl,hb⟩;have HB1:=Lh (bQ HB0.out hb);have hS1:=HS.out _ HB1.out;clear hb HX;refine V hK hS1 ?_;clear hK K' hS;have hS:=hS1;clear hS1;refine U 15 fun K' hK=> ?_
   have HX:=Lh (Rc.left (HR.out _ HB1.out).caps 1);go_simp;go_at_call 115;refine HX.out.mono ?_;rintro e w2 ⟨rfl,hb⟩;have HB2:=Lh (bQ HB1.out hb);have hS1:=HS.out _ HB2.out;clear hb HX;refine V hK hS1 ?_;clear hK K' hS;have hS:=hS1;clear hS1;refine T 16 hS ?_;refine T 17 hS ?_;refine T 18 hS ?_;refine T 19 hS ?_;refine T 22 hS ?_;refine T 23 hS ?_;refine T 24 hS ?_;refine T 25 hS ?_;refine U 20 fun K' hK=> ?_
   have HX:=Lh (Kl.caps (HK.out _ HB2.out));go_simp;go_at_call 25;refine HX.out.mono ?_;rintro e w3 ⟨rfl,rfl⟩;clear HX;refine V hK hS ?_;clear hK K';refine U 21 fun K' hK=> ?_
   have HX:=Lh (Ca.free (HK.out _ HB2.out).caps HP1.out);go_simp;go_at_call 116;refine HX.out.mono ?_;rintro e w3 ⟨rfl,hb⟩;have HB3:=Lh (bQ HB2.out hb);have hS1:=HS.out _ HB3.out;clear hb HX;refine V hK hS1 ?_;clear hK K' hS;have hS:=hS1;clear hS1;refine U 26 fun K' hK=> ?_
   have HX:=Lh (Rc.free (HR.out _ HB3.out).caps);go_simp;go_at_call 58;refine HX.out.mono ?_;rintro e w4 ⟨rfl,hb⟩;have HB4:=Lh (bQ HB3.out hb);have hS1:=HS.out _ HB4.out;clear hb HX;refine V hK hS1 ?_;clear hK K' hS;have hS:=hS1;clear hS1;refine T 27 hS ?_;refine T 28 hS ?_;refine T 29 hS ?_;refine T 30 hS ?_;refine T 33 hS ?_;refine T 34 hS ?_;refine T 35 hS ?_;refine T 36 hS ?_;refine T 37 hS ?_;refine T 38 hS ?_;refine T 39 hS ?_;refine U 31 fun K' hK=> ?_
   have HX:=Lh (Kl.nic (HK.out _ HB4.out));go_simp;go_at_call 12;refine HX.out.mono ?_;rintro e w5 ⟨rfl,rfl⟩;clear HX;refine V hK hS ?_;clear hK K';obtain⟨mb,V0,sv0,hnc,_⟩:=(HK.out _ HB4.out).nic;have HNc:=Lh fun W (hW:Below w4.heap.size w4 W)=>hnc.keep (G:=fun _=>False) (Mod.of_below hW _) fun _ _ g=>g
   clear hnc;refine U 32 fun K' hK=> ?_
   have HX:=Lh (Ni.sentC (HNc.out _ Br) HSl.out);go_simp;go_at_call 95;refine HX.out.mono ?_;rintro e w5 ⟨v,rfl,hsv,hb⟩;have HSv:=Lh hsv;have HN2:=Lh (HNc.out _ hb);have HB5:=Lh (bQ HB4.out hb);have hS1:=HS.out _ HB5.out;clear hb HX hsv HNc;refine V hK hS1 ?_;clear hK K' hS;have hS:=hS1;clear hS1;refine U 40 fun K' hK=> ?_
   have HX:=Lh (Rn.sameTexts HSv.out (HSo.out _ HB5.out));go_simp;go_at_call 117;refine HX.out.mono ?_;rintro e w6 ⟨rfl,hb⟩;have HN3:=Lh (HN2.out.keep (G:=fun _=>False) (Mod.of_below hb _) fun _ _ g=>g);have HB6:=Lh (bQ HB5.out hb);have hS1:=HS.out _ HB6.out;clear hb HX HSv HN2;refine V hK hS1 ?_;clear hK K' hS;have hS:=hS1;clear hS1;refine T 41 hS ?_;refine T 42 hS ?_;refine T 43 hS ?_;refine T 46 hS ?_;refine T 47 hS ?_;refine T 48 hS ?_;refine T 49 hS ?_;refine T 50 hS ?_;refine T 51 hS ?_;refine T 52 hS ?_;refine U 44 fun K' hK=> ?_
   have HX:=Lh (Kl.nic (HK.out _ HB6.out));go_simp;go_at_call 12;refine HX.out.mono ?_;rintro e w7 ⟨rfl,rfl⟩;clear HX;refine V hK hS ?_;clear hK K';refine U 45 fun K' hK=> ?_
   have HX:=Lh (Ni.droppedC HN3.out);go_simp;go_at_call 118;refine HX.out.mono ?_;rintro e w7 ⟨rfl,rfl⟩;clear HX;refine V hK hS ?_;clear hK K';refine T 53 hS ?_;refine T 54 hS ?_;refine T 55 hS ?_;clear hS;refine wpAnyH_done (by kernel_rfl) ?_ _;go_wp2
   first|exact⟨rfl,HB6.out⟩|(go_ret;exact⟨rfl,HB6.out⟩)
end
end L22
theorem Cps.empty(w:World){hp:Int}(p0:0≤hp)(hv:Value):Cps ((w.alloc (.map #[] 0)).alloc (.cells #[.int .u32 hp,hv,.map (some w.heap.size)] 194)) ⟨w.heap.size+1,w.heap.size,hv,fun _=>w.heap.size+1,fun _=>.slice none 0 0,fun _=>.slice none 0 0⟩ hp (fun _=>none):=by
 have hown:=World.ownsMap_made w Tryz.prog 3 ptrElem;have hs2:(w.alloc (.map #[] 0)).heap.size=w.heap.size+1:=by simp
 generalize w.alloc (.map #[] 0)=V2 at*;have hnew:=heap_alloc_new V2 (.cells #[.int .u32 hp,hv,.map (some w.heap.size)] 194);rw[hs2] at hnew;exact⟨hnew,⟨_,_,hown.alloc _,fun x zd=>by rw[if_neg (by simp)];rfl,rfl⟩,fun n g hg=>(by cases hg),fun n g hg=>(by cases hg),fun n hn=>(by cases hn),fun n m hn=>(by cases hn),p0⟩
namespace Ca
structure CpR(w:World)(a:CAt)(hp:Int)(G:Int→Option Gr)(f:Int→Bool)(cb mb r:Nat)(wr:World)(c:CAt):Prop where
 cps:Cps wr c hp (Gp.met f G)
 bel:Below w.heap.size w wr
 ecb:c.cb=cb
 emb:c.mb=mb
 hv:c.hv=a.hv
 ev:∀n,(Gp.met f G n).isSome=true→c.ev n=a.ev n∧c.pv n=a.pv n∧w.heap.size≤c.gb n
 cb0:w.heap.size≤cb
 mb0:w.heap.size≤mb
 r0:w.heap.size≤r
 rm:r≠mb
 nr:∀k,c.wf (Gp.met f G) k∨c.rf (Gp.met f G) k→k≠r
 rl:r<wr.heap.size
def cpRel(w:World)(a:CAt)(hp:Int)(G:Int→Option Gr)(D:DataW Unit)(n r:Nat)(cb mb:Nat)(wr:World):Prop:=
 ∃left cnt c,wr.ranges Tryz.prog 3 ptrElem a.mb r n D left cnt∧CpR w a hp G (fun x=>left (.int .i64 x)) cb mb r wr c
section
variable {w:World} {a:CAt} {hp:Int} {G:Int→Option Gr}
theorem copy(h:Cps w a hp G)(p0:0≤hp)(hrf:∀k,a.rf G k→k<w.heap.size):Calls Tryz.prog 81 #[.pointer (some ⟨a.cb,0,none⟩)] w fun e w'=>∃c,e=.returned (.pointer (some ⟨c.cb,0,none⟩))∧CaCopy w w' a hp G c:=by
 have K:=Maps.int_keyed (P:=Tryz.prog) Tryz.underlying3;have hmm:= @run_makeMap Tryz.prog;obtain⟨D,n,ho,hv,hs⟩:=h.map;have Hv:=Lh hv;have H:=Lh h;obtain⟨c0,c1,c2⟩:=h.cells;have hb2:Below w.heap.size w ((w.alloc (.map #[] 0)).alloc (.cells #[.int .u32 hp,a.hv,.map (some w.heap.size)] 194)):=((Below.refl w.heap.size w).alloc (Nat.le_refl _) _).alloc (by simp) _;have Ho:Hid (World.ownsMap _ Tryz.prog 3 ptrElem a.mb n D):=Lh ((ho.alloc (.map #[] 0)).alloc (.cells #[.int .u32 hp,a.hv,.map (some w.heap.size)] 194));have He:=Lh (Cps.empty w p0 a.hv);have HB2:=Lh hb2;have HBd:=Lh fun f=>Gp.sumL_bd (f:=f) h.ok
 have HFt:=Lh h.fit;have HRf:=Lh hrf;have d2:=(h.below hb2).cells.2.2;have HFin:Hid (∀V c,Cps V c hp G→c.hv=a.hv→(∀n,(G n).isSome=true→c.ev n=a.ev n∧c.pv n=a.pv n)→(∀k,c.wf G k→w.heap.size≤k)→Below w.heap.size w V→∃c',Ending.returned (.pointer (some ⟨c.cb,0,none⟩))=.returned (.pointer (some ⟨c'.cb,0,none⟩))∧CaCopy w V a hp G c'):=Lh fun V c k1 k2 k3 k4 k5=>⟨c,rfl,k1,k2,k3,fun k hk=>⟨k4 k hk,k1.lt hk⟩,k5⟩
 clear h hv hs ho hb2 hrf;go_enter func81,ntmps81;go_wp2_with (at_range;refine wpList_range_own _ rfl _ 192 rfl 3 191 K Tryz.underlying192 ptrElem a.mb n D rfl Ho.out ?_;intro w2 hrg hg2 hz2);obtain⟨cb,hcb⟩:∃x,w.heap.size+1=x:=⟨_,rfl⟩;obtain⟨mb,hmb⟩:∃x,w.heap.size=x:=⟨_,rfl⟩;obtain⟨r,hr⟩:∃x,((w.alloc (.map #[] 0)).alloc (.cells #[.int .u32 hp,a.hv,.map (some w.heap.size)] 194)).heap.size=x:=⟨_,rfl⟩;have hr2:r=w.heap.size+2:=by rw[←hr];simp
 have h2:cpRel w a hp G D n r cb mb w2:=by
  rw[hr] at hrg;have hbg:Below ((w.alloc (.map #[] 0)).alloc (.cells #[.int .u32 hp,a.hv,.map (some w.heap.size)] 194)).heap.size ((w.alloc (.map #[] 0)).alloc (.cells #[.int .u32 hp,a.hv,.map (some w.heap.size)] 194)) w2:=Br.grown hg2 (Nat.le_refl _) (fun k e=>by cases e);have hmt:=Gp.met_all (G:=G) (f:=fun x=>Maps.has D (.int .i64 x)) fun k hk=>Maps.has_true_of_atKey (y:=.lit (.int .i64 (a.gb k))) fun zd=>by rw[Hv.out,if_pos hk]
  refine⟨_,_,⟨w.heap.size+1,w.heap.size,a.hv,fun _=>w.heap.size+1,fun _=>.slice none 0 0,fun _=>.slice none 0 0⟩,hrg,⟨?_,bQ HB2.out hbg,hcb,hmb,rfl,fun n hn=> ?_,by omega,by omega,by omega,by omega,fun k hk=> ?_, ?_⟩⟩
  ·rw[hmt];exact He.out.below hbg
  ·rw[hmt] at hn;cases hn
  ·rw[hmt] at hk;have hr3:=hr2;rcases hk with(e|e|⟨n,hn,e⟩)|⟨n,hn,e⟩
   ·have e:k=w.heap.size+1:=e;omega
   ·have e:k=w.heap.size:=e;omega
   ·cases hn
   ·cases hn
  ·have:=hz2;have:=hg2.size;simp at this⊢;omega
 have H2:=Lh h2;have hr1:cb+1=r:=by omega
 try simp only[hcb]
 try simp only[hr1]
 clear hr1;clear hr hrg hg2 hz2 h2 Ho He d2 c0 c1 c2 hcb hmb hr2;try go_frame
 go_loopw [4,5] (fun _ _ wr=>cpRel w a hp G D n r cb mb wr) (fun _ _ wr=>wr.rangeLeft a.mb r)
 case atStart=>exact H2.out
 case round=>
  clear H2;obtain⟨left,cnt,c,hrg,hcr⟩:=hrel;have Hrg:=Lh hrg;have HC:=Lh hcr;clear hrg hcr;go_wp2_with (at_next;refine wpList_next_ranges _ rfl _ rfl 3 K ptrElem (Value.int .i64) id (fun key kl hk=>by obtain⟨x,hx,_⟩:=Maps.keyOf_int_inv Tryz.underlying3 hk;exact⟨x,hx⟩) (fun v _ _=>⟨v,rfl⟩) a.mb r n D left cnt rfl Hrg.out ?_ ?_)
  ·intro hc0 hl0;have hm:Gp.met (fun x=>left (.int .i64 x)) G=G:=Gp.met_none fun x=>by rw[hl0]
   have HE:=Lh (HFin.out wr c (by have:=HC.out.cps;rw[hm] at this;exact this) HC.out.hv (fun n hn=>by have:=HC.out.ev n (by rw[hm];exact hn);exact⟨this.1,this.2.1⟩) (fun k hk=>by
    rcases hk with rfl|rfl|⟨n,hn,rfl⟩
    ·rw[HC.out.ecb];exact HC.out.cb0
    ·rw[HC.out.emb];exact HC.out.mb0
    ·exact(HC.out.ev n (by rw[hm];exact hn)).2.2) HC.out.bel)
   rw[HC.out.ecb] at HE;clear hm;go_wp2
   first|exact HE.out|(go_ret;exact HE.out)
  ·intro x u kl y1 y2 w3 cnt2 hkey hlk hR hat3 hrg3 hlt hg3 hs3 hen;obtain⟨x',ex,rfl,hwx⟩:=Maps.keyOf_int_inv Tryz.underlying3 hkey;obtain rfl:x=x':=by simpa using ex
   obtain⟨⟨g,hg⟩,rfl⟩:=entry Hv.out hat3;obtain⟨x1,x8⟩:=H.out.dom x (by rw[hg];rfl);obtain rfl:u=.pointer (some ⟨a.gb x,0,none⟩):=by
    rcases ptrElem_inv hR with⟨_,hb⟩|⟨b,e,hb⟩
    ·omega
    ·have:b=a.gb x:=by omega
     subst this;exact e
   have hw3b:Below w.heap.size w w3:=HC.out.bel.grown hg3 HC.out.bel.size (fun k e=>by cases e;exact HC.out.r0);have hA3:=H.out.below hw3b;obtain⟨g0,g1,g2,g3,g4,g5,_⟩:=gr_cells (hA3.grant x g hg).1;have hmn3:=(hA3.grant x g hg).2;obtain⟨eo,ec,hev⟩:=hmn3.e.form;obtain⟨po,pc,hpv⟩:=hmn3.p.form;rw[hev] at g1 hmn3;rw[hpv] at g2 hmn3;have hcr3:Cps w3 c hp (Gp.met (fun x=>left (.int .i64 x)) G):=HC.out.cps.mod (F:=fun k=>k=r) ⟨hg3.os,hg3.tape,hg3.output,hg3.size,fun k hk hne=>hg3.block k hk (by simpa using hne)⟩ fun k hk e=>HC.out.nr k hk e
   have gbl:a.gb x<w.heap.size:=H.out.lt (.inr (.inr ⟨x,by rw[hg];rfl,rfl⟩));have aml:a.mb<w.heap.size:=H.out.lt (.inr (.inl rfl));have xcb:w3.cell? ⟨cb,2,none⟩=some (.map (some mb)):=by have:=hcr3.cells.2.2;rw[HC.out.ecb,HC.out.emb] at this;exact this
   have hS0:∀V,Below w3.heap.size w3 V→V.cell? ⟨cb,2,none⟩=some (.map (some mb))∧V.cell? ⟨a.gb x,0,none⟩=some (.int .u32 g.m.pages)∧V.cell? ⟨a.gb x,1,none⟩=some (.slice eo g.m.ext.length ec)∧V.cell? ⟨a.gb x,2,none⟩=some (.slice po g.m.ports.length pc)∧V.cell? ⟨a.gb x,3,none⟩=some (.bool g.m.con)∧V.cell? ⟨a.gb x,4,none⟩=some (.int .u32 g.pg)∧V.cell? ⟨a.gb x,5,none⟩=some (.int .u32 g.took)∧True:=fun V hV=>⟨cQ hV xcb,cQ hV g0,cQ hV g1,cQ hV g2,cQ hV g3,cQ hV g4,cQ hV g5,trivial⟩
   have HS:=Lh hS0;have hnew:Below w3.heap.size w3 (w3.drew.alloc (.cells #[.int .u32 g.m.pages,.slice eo g.m.ext.length ec,.slice po g.m.ports.length pc,.bool g.m.con,.int .u32 g.pg,.int .u32 g.took] 276)):=Br.drew.alloc (Nat.le_refl _) _;have hok:=H.out.ok x g hg;have hSm:Gp.sumL (fun y=>left (.int .i64 y)&& !(Lit.int .i64 y).sameKey (.int .i64 x)) G=Gp.sumL (fun y=>left (.int .i64 y)) G+(g.m.pages+g.pg):=by
    rw[Gp.sumL_meet (f:=fun y=>left (.int .i64 y)) (f':=fun y=>left (.int .i64 y)&& !(Lit.int .i64 y).sameKey (.int .i64 x)) x1 x8 (by exact hlk) (by simp[Lit.sameKey]) (fun y hy=>by
     have:(Lit.int .i64 y).sameKey (.int .i64 x)=false:=by simp[Lit.sameKey];omega
     simp[this]),hg]
    rfl
   have hSb:=(HBd.out fun y=>left (.int .i64 y)&& !(Lit.int .i64 y).sameKey (.int .i64 x)).2;rw[hSm] at hSb;have hft:=HFt.out;obtain⟨w4,hrun,hc4,hm4⟩:=Cps.insert (hcr3.below hnew) x1 x8 (Gp.met_at (f:=fun y=>left (.int .i64 y)) hlk) (g:=g) (gb:=w3.heap.size) (ev:=.slice eo g.m.ext.length ec) (pv:=.slice po g.m.ports.length pc) (heap_alloc_new w3.drew _) (hmn3.below hnew) hok (by rw[HC.out.emb];have:=hg3.size;have:=HC.out.rl;have:=hcr3.lt (.inr (.inl rfl));rw[HC.out.emb] at this;omega) (fun k hk e=>by have:=hcr3.lt (.inr (.inr ⟨k,hk,rfl⟩));omega) (by rw[Gp.met_sum];omega);rw[HC.out.emb] at hrun hm4;have hmet:Gp.upd (Gp.met (fun y=>left (.int .i64 y)) G) x (some g)=Gp.met (fun y=>left (.int .i64 y)&& !(Lit.int .i64 y).sameKey (.int .i64 x)) G:=by
    rw[←hg];exact(Gp.met_step (f:=fun y=>left (.int .i64 y)) (f':=fun y=>left (.int .i64 y)&& !(Lit.int .i64 y).sameKey (.int .i64 x)) hlk (by simp[Lit.sameKey]) (fun y hy=>by
     have:(Lit.int .i64 y).sameKey (.int .i64 x)=false:=by simp[Lit.sameKey];omega
     simp[this])).symm
   rw[hmet] at hc4;have hz3:=hg3.size;have hz4:=hm4.size;have hzr:=HC.out.bel.size;have hza:(w3.drew.alloc (.cells #[.int .u32 g.m.pages,.slice eo g.m.ext.length ec,.slice po g.m.ports.length pc,.bool g.m.con,.int .u32 g.pg,.int .u32 g.took] 276)).heap.size=w3.heap.size+1:=by simp
   have hrg4:w4.ranges Tryz.prog 3 ptrElem a.mb r n D (fun z=>left z&& !z.sameKey (.int .i64 x)) cnt2:=(ranges_below hrg3 hnew).kept (row:=some mb) ⟨hm4.os,hm4.tape,hm4.output,hm4.size,fun k hk hne=>hm4.block k hk (by simpa using hne)⟩ (by simp;have:=HC.out.mb0;omega) (by simp;exact HC.out.rm);have hb4:Below w.heap.size w w4:=Mod.below (bQ hw3b hnew) hm4 (by omega) fun k _ e=>by subst e;exact HC.out.mb0
   have hS4:∀k v i,k≠mb→k<w3.heap.size→w3.cell? ⟨k,i,none⟩=some v→w4.cell? ⟨k,i,none⟩=some v:=fun k v i hne hlt hc=>by
    rw[World.cell?_of_block (a:=⟨k,i,none⟩) (w:=w3.drew.alloc (.cells #[.int .u32 g.m.pages,.slice eo g.m.ext.length ec,.slice po g.m.ports.length pc,.bool g.m.con,.int .u32 g.pg,.int .u32 g.took] 276)) (hm4.block k (by omega) hne)];exact cQ hnew hc
   have cne:cb≠mb:=by have:=hcr3.head_ne.1;rw[HC.out.ecb,HC.out.emb] at this;exact this
   have gne:a.gb x≠mb:=by have:=HC.out.mb0;omega
   have hS5:w4.cell? ⟨cb,2,none⟩=some (.map (some mb))∧w4.cell? ⟨a.gb x,0,none⟩=some (.int .u32 g.m.pages)∧w4.cell? ⟨a.gb x,1,none⟩=some (.slice eo g.m.ext.length ec)∧w4.cell? ⟨a.gb x,2,none⟩=some (.slice po g.m.ports.length pc)∧w4.cell? ⟨a.gb x,3,none⟩=some (.bool g.m.con)∧w4.cell? ⟨a.gb x,4,none⟩=some (.int .u32 g.pg)∧w4.cell? ⟨a.gb x,5,none⟩=some (.int .u32 g.took)∧True:=by
    have l1:cb<w3.heap.size:=by have:=hcr3.lt (.inl rfl);rw[HC.out.ecb] at this;exact this
    have l2:a.gb x<w3.heap.size:=by have:=HC.out.rl;have:=HC.out.r0;omega
    exact⟨hS4 _ _ _ cne l1 xcb,hS4 _ _ _ gne l2 g0,hS4 _ _ _ gne l2 g1,hS4 _ _ _ gne l2 g2,hS4 _ _ _ gne l2 g3,hS4 _ _ _ gne l2 g4,hS4 _ _ _ gne l2 g5,trivial⟩
   have fin:cpRel w a hp G D n r cb mb w4:=by
    refine⟨_,cnt2,c.put x w3.heap.size (.slice eo g.m.ext.length ec) (.slice po g.m.ports.length pc),hrg4,⟨hc4,hb4,HC.out.ecb,HC.out.emb,HC.out.hv,fun k hk=> ?_,HC.out.cb0,HC.out.mb0,HC.out.r0,HC.out.rm,fun k hk=> ?_,by have:=HC.out.rl;omega⟩⟩
    ·by_cases e:k=x
     ·subst e;obtain⟨e1,e2,e3⟩:=c.put_at k w3.heap.size (.slice eo g.m.ext.length ec) (.slice po g.m.ports.length pc);rw[e1,e2,e3,hev,hpv];exact⟨rfl,rfl,by have:=HC.out.rl;have:=HC.out.r0;omega⟩
     ·obtain⟨e1,e2,e3⟩:=c.put_ne w3.heap.size (.slice eo g.m.ext.length ec) (.slice po g.m.ports.length pc) e;rw[e1,e2,e3];refine HC.out.ev k ?_;have hk':(Gp.met (fun y=>left (.int .i64 y)&& !(Lit.int .i64 y).sameKey (.int .i64 x)) G k).isSome=true:=hk;rw[←hmet,Gp.upd_ne _ _ e] at hk';exact hk'
    ·have hput:∀n,(Gp.met (fun y=>left (.int .i64 y)&& !(Lit.int .i64 y).sameKey (.int .i64 x)) G n).isSome=true→n=x∨(Gp.met (fun y=>left (.int .i64 y)) G n).isSome=true:=fun n hn=>by
      by_cases e:n=x
      ·exact .inl e
      ·rw[←hmet,Gp.upd_ne _ _ e] at hn;exact .inr hn
     rcases hk with(e|e|⟨n,hn,e⟩)|⟨n,hn,e⟩
     ·exact HC.out.nr k (.inl (.inl e))
     ·exact HC.out.nr k (.inl (.inr (.inl e)))
     ·by_cases q:n=x
      ·subst q;rw[(c.put_at n w3.heap.size (.slice eo g.m.ext.length ec) (.slice po g.m.ports.length pc)).1] at e;have:=HC.out.rl;omega
      ·rw[(c.put_ne w3.heap.size (.slice eo g.m.ext.length ec) (.slice po g.m.ports.length pc) q).1] at e;exact HC.out.nr k (.inl (.inr (.inr ⟨n,(hput n hn).resolve_left q,e⟩)))
     ·by_cases q:n=x
      ·subst q;obtain⟨e1,e2,e3⟩:=c.put_at n w3.heap.size (.slice eo g.m.ext.length ec) (.slice po g.m.ports.length pc);rw[e2,e3,←hev,←hpv] at e;have:=HRf.out k ⟨n,by rw[hg];rfl,e⟩;have:=HC.out.r0;omega
      ·obtain⟨e1,e2,e3⟩:=c.put_ne w3.heap.size (.slice eo g.m.ext.length ec) (.slice po g.m.ports.length pc) q;rw[e2,e3] at e;exact HC.out.nr k (.inr ⟨n,(hput n hn).resolve_left q,e⟩)
   have Fin:=Lh fin;have hml:w4.rangeLeft a.mb r<cnt:=by rw[hrg4.left_eq];exact hlt
   have hml0:=Hrg.out.left_eq;have HMl:Hid (w4.rangeLeft a.mb r<wr.rangeLeft a.mb r):=Lh (by rw[hml0];exact hml);have HRun:=Lh hrun;have HS5:=Lh hS5;have hS:=HS.out w3.drew Br.drew;have HSA:=Lh (HS.out _ hnew);clear fin hml hml0 hrun hS5 hS4 hS0 hrg4 hb4 hc4 hm4 hcr3 hnew hmn3 hA3 hw3b hrg3 hat3 hR hkey ex hwx hlk hSm hSb hft hmet hza hz4 g0 g1 g2 g3 g4 g5 xcb hok HC Hrg hg3 hz3 hs3 hlt;go_wp2_with fail;refine B (fun V=>V.cell? ⟨cb,2,none⟩=some (.map (some mb))∧V.cell? ⟨a.gb x,0,none⟩=some (.int .u32 g.m.pages)∧V.cell? ⟨a.gb x,1,none⟩=some (.slice eo g.m.ext.length ec)∧V.cell? ⟨a.gb x,2,none⟩=some (.slice po g.m.ports.length pc)∧V.cell? ⟨a.gb x,3,none⟩=some (.bool g.m.con)∧V.cell? ⟨a.gb x,4,none⟩=some (.int .u32 g.pg)∧V.cell? ⟨a.gb x,5,none⟩=some (.int .u32 g.took)∧True) hS ?_;intro wd hwd hS;have HWd:=Lh hwd;clear hwd;refine T 0 hS ?_;refine T 1 hS ?_;refine T 2 hS ?_;refine T 3 hS ?_;refine T 4 hS ?_;refine T 5 hS ?_;refine T 6 hS ?_;refine T 7 hS ?_;refine T 8 hS ?_;refine T 9 hS ?_;refine T 10 hS ?_;refine T 11 hS ?_;refine T 12 hS ?_;refine T 13 hS ?_;refine T 14 hS ?_;refine T 15 hS ?_;refine T 16 hS ?_;refine T 17 hS ?_;clear hS;refine U 18 fun K hK=> ?_
   go_simp;rw[HWd.out];refine V hK HSA.out ?_;clear hK K;refine U 19 fun K hK=> ?_
   have hrun:=HRun.out;rw[show∀o,w3.drew.alloc o=(w3.alloc o).drew from fun _=>rfl] at hrun;go_simp;refine V hK HS5.out ?_;clear hK K;clear hrun;refine wpAnyH_done (by kernel_rfl) ?_ _;go_wp2;exact⟨Fin.out,HMl.out⟩
end
end Ca
namespace Cl
theorem clone_el{w:World}{a:Option Addr}{n cap:Nat}{xs:List Value}(hl:xs.length=n*1)(hc:At w a xs)(hs:n≤2000000)(h1:∀u,u∈xs→u.oneCell'=true):
  Calls Tryz.prog 83 #[.slice a n cap] w fun e w'=>∃v',e=.returned v'∧SlV w' 9 1 v' n xs∧(∃d,Ni.slcElem v'=some (d,[]))∧(∀b,v'.ownBlock=some b→w.heap.size≤b∧b<w'.heap.size)∧Below w.heap.size w w':=by
 by_cases h0:n=0
 ·subst h0;obtain rfl:xs=[]:=List.length_eq_zero_iff.1 (by omega);clear hc;cases a with
  |none=>
   have hq:=fun W=>Lib.run_eql_slice_nil (P:=Tryz.prog) W _ _ none 0 cap 0 0 Tryz.underlying35
   go_enter func83,ntmps83;go_wp2
   first
    |(go_ret;exact⟨_,rfl,SlV.nil _ _ _,⟨_,rfl⟩,fun b hb=>(nomatch hb),Below.refl _ _⟩)
    |(refine bodyPost_ret (v:=.slice none 0 0) (by simp[results,Tryz.results83,go_sem, *]) rfl ?_;exact⟨_,rfl,SlV.nil _ _ _,⟨_,rfl⟩,fun b hb=>(nomatch hb),Below.refl _ _⟩)
  |some p=>
   have hq:=fun W=>Lib.run_eql_slice_nil (P:=Tryz.prog) W _ _ (some p) 0 cap 0 0 Tryz.underlying35
   have HB:Hid (Below w.heap.size w (w.alloc (.cells #[] 9))):=Lh (Ba _);have HL:Hid (SlV (w.alloc (.cells #[] 9)) 9 1 (.slice (some ⟨w.heap.size,0,none⟩) 0 0) 0 []):=Lh ⟨rfl,.inl ⟨rfl,_,rfl⟩⟩;go_enter func83,ntmps83;go_wp2;go_ret;exact⟨_,rfl,HL.out,⟨_,rfl⟩,fun b hb=>by injection hb with hb;exact⟨Nat.le_of_eq hb,by rw[←hb];simp⟩,HB.out⟩
 ·exact(clone_str hl hc hs h1).mono fun e w' ⟨v,k1,k2,k3,k4⟩=>⟨v,k1,k2,Ni.slcElem_some k2 (by omega),k3,k4⟩
end Cl
theorem ranges_below'{V W:World}{k:TypeId}{R:Value→Option (DataW Unit×List MemPlace)}{b r n:Nat}{D:DataW Unit}{left:Lit→Bool}{cnt:Nat}(h:V.ranges Tryz.prog k R b r n D left cnt)(hb:Below V.heap.size V W):W.ranges Tryz.prog k R b r n D left cnt:=h.kept (row:=none) ⟨hb.os,hb.tape,hb.output,hb.size,fun k hk _=>hb.block k hk⟩ (by simp) (by simp)
theorem cellLt{w:World}{b i:Nat}{v:Value}(h:w.cell? ⟨b,i,none⟩=some v):b<w.heap.size:=by
 unfold World.cell? at h;cases hg:w.heap[b]? with
 |none=>rw[hg] at h;cases h
 |some _=>exact lQ hg
namespace Ni
def qMet(f:Int→Bool)(S:NicS)(x:Int):List ByteArray:=if f x=true then [] else S.q x
structure CpR(w:World)(S:NicS)(f:Int→Bool)(nb mb r:Nat)(V:Int→Value)(ps:List Int)(wr:World):Prop where
 n:Nc wr nb mb V (.slice none 0 0) ⟨ps,qMet f S,[],0⟩
 ps:∀x,x∈ps↔x∈S.ports∧f x=false
 nil:∀x,f x=true→V x=.slice none 0 0
 own:∀x k,(V x).ownBlock=some k→w.heap.size≤k∧k≠r
 bel:Below w.heap.size w wr
 n0:w.heap.size≤nb∧nb≠r
 m0:w.heap.size≤mb∧mb≠r
 r0:w.heap.size≤r∧r<wr.heap.size
def cpRel(w:World)(om:Nat)(S:NicS)(D:DataW Unit)(n r nb mb:Nat)(wr:World):Prop:=
 ∃left cnt V ps,wr.ranges Tryz.prog 31 slcElem om r n D left cnt∧CpR w S (fun x=>left (.int .u16 x)) nb mb r V ps wr
theorem q_none{w:World}{nb mb:Nat}{V:Int→Value}{sv:Value}{S:NicS}(h:Nc w nb mb V sv S){x:Int}(hx:x∉S.ports):S.q x=[]:=by
 obtain⟨D,n,ho,hv,hs,hh⟩:=h.map;have h1:Maps.has D (.int .u16 x)=false:=by rw[hh];exact decide_eq_false hx
 have h2:D.atKey (.int .u16 x) nilD=nilD:=Maps.atKey_of_not_has h1 nilD;have h3:=hv x;rw[h2] at h3;have h4:V x=.slice none 0 0:=slcElem_inj h3 (show slcElem (.slice none 0 0)=some (nilD,[]) from rfl);have h5:=h.rows x;rw[h4] at h5;rcases h5.2 with⟨g,_⟩|⟨g,off,cap,cur,e,_⟩
 ·exact List.length_eq_zero_iff.1 g
 ·simp at e
def CopyP(w:World)(S:NicS)(e:Ending)(w':World):Prop:=∃nb mb V sv,e=.returned (.pointer (some ⟨nb,0,none⟩))∧Nc w' nb mb V sv S∧(∀k,foot nb mb V sv k→w.heap.size≤k)∧Below w.heap.size w w'
section
variable {w:World} {ob om:Nat} {V0:Int→Value} {sv0:Value} {S:NicS}
theorem copy(h:Nc w ob om V0 sv0 S)(hsl:S.sent.length≤2000000):Calls Tryz.prog 82 #[.pointer (some ⟨ob,0,none⟩)] w (CopyP w S):=by
 have K:=Maps.int_keyed (P:=Tryz.prog) Tryz.underlying31;obtain⟨D,n,ho,hv,hs,hh⟩:=h.map;have Hv:=Lh hv;have Hh:=Lh hh;have H:=Lh h;have Ho:=Lh fun V (hV:Below w.heap.size w V)=>own_of_block ho (hV.block _ (h.lt om (.inr (.inl rfl))))
 have HNew:=Lh (new w);have HSl:=Lh hsl;obtain⟨so,sc,hsv⟩:=h.sent.form;have HSv:=Lh hsv;have HFin:Hid (∀V nb mb V' sv',Nc V nb mb V' sv' S→(∀k,foot nb mb V' sv' k→w.heap.size≤k)→Below w.heap.size w V→CopyP w S (.returned (.pointer (some ⟨nb,0,none⟩))) V):=Lh fun V nb mb V' sv' k1 k2 k3=>⟨nb,mb,V',sv',rfl,k1,k2,k3⟩
 generalize CopyP w S=PQ at*;clear hsv hsl ho hv hs hh h;go_enter func82,ntmps82;go_wp2_with fail;refine HNew.out.mono ?_;rintro e w1 ⟨rfl,hn1,hb1,hz1⟩;have d0:=cQ hb1 H.out.cellMap;have HB1:=Lh hb1;have HN1:=Lh hn1;have HO1:=Lh (Ho.out w1 hb1);have hz:=Lh hz1;clear hn1 hb1 hz1;go_wp2_with (at_range;refine wpList_range_own _ rfl _ 159 rfl 31 35 K Tryz.underlying159 slcElem om n D rfl HO1.out ?_;intro w2 hrg hg2 hz2);obtain⟨nb,hnb⟩:∃x,w.heap.size+1=x:=⟨_,rfl⟩;obtain⟨mb,hmb⟩:∃x,w.heap.size=x:=⟨_,rfl⟩;obtain⟨r,hr⟩:∃x,w1.heap.size=x:=⟨_,rfl⟩;have h2:cpRel w om S D n r nb mb w2:=by
  have hzz:=hz.out;rw[hr] at hrg hzz hz2;have hbg:Below w1.heap.size w1 w2:=Br.grown hg2 (Nat.le_refl _) (fun k e=>by cases e);have hn2:=HN1.out.keep (G:=fun _=>False) (Mod.of_below hbg _) fun _ _ g=>g
  rw[hnb,hmb] at hn2;refine⟨_,_,_,[],hrg,⟨?_,fun x=> ?_,fun x hx=>rfl,fun x k hk=>(by cases hk),bQ HB1.out hbg,by omega,by omega,by omega⟩⟩
  ·have hq:qMet (fun x=>Maps.has D (.int .u16 x)) S=fun _=>[]:=by
    funext x
    unfold qMet
    split
    ·rfl
    ·rename_i g
     exact q_none H.out fun hx=>g (by show Maps.has D (.int .u16 _)=true;rw[Hh.out];exact decide_eq_true hx)
   rw[hq];exact hn2
  ·show _↔_∧Maps.has D (.int .u16 x)=false
   rw[Hh.out]
   simp
 have H2:=Lh h2;have hz0:=hz.out;rw[show w.heap.size+1=nb from hnb,show w1.heap.size=r from hr];clear hr hrg hg2 hz2 h2 hz hz0 HN1 HO1 HB1 hnb hmb d0 HNew Ho;try go_frame
 go_loopw [4,5] (fun _ _ wr=>cpRel w om S D n r nb mb wr) (fun _ _ wr=>wr.rangeLeft om r)
 case atStart=>exact H2.out
 case round=>
  clear H2;obtain⟨left,cnt,V1,ps,hrg,hcr⟩:=hrel;have Hrg:=Lh hrg;have HC:=Lh hcr;clear hrg hcr;go_wp2_with (at_next;refine wpList_next_ranges _ rfl _ rfl 31 K slcElem (Value.int .u16) id (fun key kl hk=>by obtain⟨x,hx,_⟩:=Maps.keyOf_int_inv Tryz.underlying31 hk;exact⟨x,hx⟩) (fun v _ _=>⟨v,rfl⟩) om r n D left cnt rfl Hrg.out ?_ ?_)
  ·intro hc0 hl0;have hq:qMet (fun x=>left (.int .u16 x)) S=S.q:=by
    funext x
    show(if left (.int .u16 x)=true then [] else S.q x)=S.q x
    rw[hl0];rfl
   have hn:=HC.out.n;rw[hq] at hn;have hps:∀x,x∈ps↔x∈S.ports:=fun x=>by rw[HC.out.ps,hl0];simp
   have hA:=H.out.keep (G:=fun _=>False) (Mod.of_below HC.out.bel _) fun _ _ g=>g
   have hob:=hA.lt ob (.inl rfl);have obl:=H.out.lt ob (.inl rfl);have hx1:=hA.cellSent;rw[HSv.out] at hx1;have hx2:=hA.cellGone;have HS:Hid (∀W,Below wr.heap.size wr W→W.cell? ⟨ob,1,none⟩=some (.slice so S.sent.length sc)∧W.cell? ⟨ob,2,none⟩=some (.int .i64 S.gone)∧True):=Lh fun W hW=>⟨cQ hW hx1,cQ hW hx2,trivial⟩
   have hsl:=hA.sent;rw[HSv.out] at hsl;have HCl:=Lh (Cl.clone_str (cap:=sc) (n:=S.sent.length) (by simp) (Cl.At.below (slv_at hsl) Br.drew) HSl.out (fun u hu=>by obtain⟨f,_,rfl⟩:=List.mem_map.1 hu;rfl));have HN:=Lh hn;have HPs:=Lh hps;have one:=HC.out.n0.1;have HNe:Hid (ob≠nb):=Lh (by omega);have hS:=HS.out wr.drew Br.drew;have HBd:=Lh (HC.out.bel.drew);clear hq hn hps hA hob hx1 hx2 hsl obl one;go_wp2_with fail;refine B (fun W=>W.cell? ⟨ob,1,none⟩=some (.slice so S.sent.length sc)∧W.cell? ⟨ob,2,none⟩=some (.int .i64 S.gone)∧True) hS ?_;intro wd hwd hS;rw[←hwd] at HCl HBd;have HWd:=Lh hwd;clear hwd;refine T 0 hS ?_;refine T 1 hS ?_;refine T 2 hS ?_;refine T 3 hS ?_;refine T 4 hS ?_;refine T 5 hS ?_;refine T 7 hS ?_;refine T 8 hS ?_;refine T 9 hS ?_;refine T 10 hS ?_;refine U 6 fun K hK=> ?_
   go_simp;go_at_call 83;refine HCl.out.mono ?_;rintro e w5 ⟨v5,rfl,hs5,hv5,hb5⟩;have hbr:Below wr.heap.size wr w5:=by
    have:=HWd.out;subst this;exact Br.drew.trans hb5
   have hS5:=HS.out w5 hbr;have hn5:Nc w5 nb mb V1 (.slice none 0 0) ⟨ps,S.q,[],0⟩:=HN.out.keep (G:=fun _=>False) (Mod.of_below hbr _) fun _ _ g=>g
   have hnd:Nc wd nb mb V1 (.slice none 0 0) ⟨ps,S.q,[],0⟩:=HN.out.keep (G:=fun _=>False) (by have:=HWd.out;subst this;exact Mod.of_below Br.drew _) fun _ _ g=>g
   obtain⟨o5,c5,rfl⟩:=hs5.form;have hn6:=hnd.setSent (w1:=w5) (Mod.of_below hb5 _) (.slice o5 S.sent.length c5) S.sent hs5 (by
    cases hq:(Value.slice o5 S.sent.length c5).ownBlock with
    |none=>exact .inl rfl
    |some k=>exact .inr ⟨k,rfl,(hv5 k hq).1⟩) (fun k hk=>(hv5 k hk).2)
   have hn7:=hn6.setGone S.gone;have hm6:Mod (fun k=>k=nb) w5 (w5.setCell ⟨nb,1,none⟩ (.slice o5 S.sent.length c5)):=Mod.setCell (F:=fun k=>k=nb) (Mod.refl _ _) ⟨nb,1,none⟩ (.inl rfl) _;have hm7:Mod (fun k=>k=nb) (w5.setCell ⟨nb,1,none⟩ (.slice o5 S.sent.length c5)) ((w5.setCell ⟨nb,1,none⟩ (.slice o5 S.sent.length c5)).setCell ⟨nb,2,none⟩ (.int .i64 S.gone)):=Mod.setCell (F:=fun k=>k=nb) (Mod.refl _ _) ⟨nb,2,none⟩ (.inl rfl) _;have hcl:∀ {W W':World} {i:Nat} {v:Value},Mod (fun k=>k=nb) W W'→W.cell? ⟨ob,i,none⟩=some v→W'.cell? ⟨ob,i,none⟩=some v:=fun hm hc=>by
    have hl:ob<_:=cellLt hc;rw[World.cell?_of_block (a:=⟨ob,_,none⟩) (w:=_) (hm.block ob hl HNe.out)];exact hc
   have hS6:=And.intro (hcl hm6 hS5.1) (And.intro (hcl hm6 hS5.2.1) trivial);have hS7:=And.intro (hcl hm7 hS6.1) (And.intro (hcl hm7 hS6.2.1) trivial);have HS6:=Lh hS6;have HS7:=Lh hS7;have e1:=hn5.cellSent;have e2:=hn5.free 1;have f1:=hn6.cellGone;have f2:=hn6.free 2;have hb6:Below w.heap.size w ((w5.setCell ⟨nb,1,none⟩ (.slice o5 S.sent.length c5)).setCell ⟨nb,2,none⟩ (.int .i64 S.gone)):=Mod.below (Mod.below (bQ HC.out.bel hbr) hm6 (by have:=HC.out.bel.size;have:=hbr.size;omega) fun k _ e=>by subst e;exact HC.out.n0.1) hm7 (by have:=HC.out.bel.size;have:=hbr.size;have:=hm6.size;omega) fun k _ e=>by subst e;exact HC.out.n0.1
   have HE:=Lh (HFin.out _ nb mb V1 _ (hn7.ports H.out.nodup fun x=>(HPs.out x).symm) (fun k hk=>by
    rcases hk with rfl|rfl|g|⟨x,g⟩
    ·exact HC.out.n0.1
    ·exact HC.out.m0.1
    ·have:=(hv5 k g).1;have:=(show Below w.heap.size w wd from HBd.out).size;omega
    ·exact(HC.out.own x k g).1) hb6)
   clear hn5 hnd hn6 hn7 hm6 hm7 hcl hS6 hS7 hb6 hs5 hv5 hb5 hbr HC HPs HN HBd Hrg H;refine V hK hS5 ?_;clear hK K;refine T 11 hS5 ?_;refine T 12 hS5 ?_;clear hS5;refine U 13 fun K hK=> ?_
   go_simp;refine V hK HS6.out ?_;clear hK K;clear e1 e2;refine T 14 HS6.out ?_;refine T 15 HS6.out ?_;refine U 16 fun K hK=> ?_
   go_simp;refine V hK HS7.out ?_;clear hK K;clear f1 f2;refine wpAnyH_done (by kernel_rfl) ?_ _;go_wp2
   first|exact HE.out|(go_ret;exact HE.out)
  ·intro x u kl y1 y2 w3 cnt2 hkey hlk hR hat3 hrg3 hlt hg3 hs3 hen;obtain⟨x',ex,rfl,hwx⟩:=Maps.keyOf_int_inv Tryz.underlying31 hkey;obtain rfl:x=x':=by simpa using ex
   have hxp:x∈S.ports:=by
    have:=Maps.has_true_of_atKey hat3;rw[Hh.out] at this;exact of_decide_eq_true this
   obtain⟨x0,x1⟩:=H.out.range x hxp;obtain rfl:u=V0 x:=by
    have h3:=Hv.out x;rw[hat3] at h3;exact slcElem_inj hR h3
   have hw3b:Below w.heap.size w w3:=HC.out.bel.grown hg3 HC.out.bel.size (fun k e=>by cases e;exact HC.out.r0.1);have hA3:=H.out.keep (G:=fun _=>False) (Mod.of_below hw3b _) fun _ _ g=>g
   have hn3:=HC.out.n.keep (G:=fun k=>k=r) ⟨hg3.os,hg3.tape,hg3.output,hg3.size,fun k hk hne=>hg3.block k hk (by simpa using hne)⟩ fun k hk e=>by
    subst e;rcases hk with g|g|g|⟨y,g⟩
    ·exact HC.out.n0.2 g.symm
    ·exact HC.out.m0.2 g.symm
    ·cases g
    ·exact(HC.out.own y k g).2 rfl
   have hrow:=hA3.rows x;obtain⟨vo,vc,hvx⟩:=hrow.form;rw[hvx] at hrow hen⊢;have h8:=hA3.small x;have HS:Hid (∀W,Below w3.heap.size w3 W→W.cell? ⟨nb,0,none⟩=some (.map (some mb))∧True):=Lh fun W hW=>⟨cQ hW hn3.cellMap,trivial⟩
   have HCl:=Lh (Cl.clone_el (cap:=vc) (n:=(S.q x).length) (by simp) (Cl.At.below (slv_at hrow) Br.drew) (by omega) (fun u hu=>by obtain⟨f,_,rfl⟩:=List.mem_map.1 hu;rfl));have hS:=HS.out w3.drew Br.drew;have HB3:=Lh hw3b;have HN3:=Lh hn3;have HR3:=Lh hrg3;have HLt:=Lh hlt;have HX:=Lh (And.intro x0 (And.intro x1 (And.intro h8 hxp)));have hz3:=hg3.size;have HLk:Hid (left (.int .u16 x)=true):=Lh hlk;have HZ:=Lh hz3;clear hw3b hA3 hn3 hrow h8 hvx hrg3 hlt hg3 hs3 hat3 hR hkey ex hwx hlk x0 x1 hxp hz3;go_wp2_with fail;refine B (fun W=>W.cell? ⟨nb,0,none⟩=some (.map (some mb))∧True) hS ?_;intro wd hwd hS;rw[←hwd] at HCl;have HWd:=Lh hwd;clear hwd;refine T 0 hS ?_;refine T 1 hS ?_;refine T 2 hS ?_;refine T 3 hS ?_;refine T 4 hS ?_;refine T 5 hS ?_;refine U 6 fun K hK=> ?_
   go_simp;go_at_call 83;refine HCl.out.mono ?_;rintro e w5 ⟨v5,rfl,hs5,hel5,hv5,hb5⟩;have hbr:Below w3.heap.size w3 w5:=by
    have:=HWd.out;subst this;exact Br.drew.trans hb5
   have hnd:Nc wd nb mb V1 (.slice none 0 0) ⟨ps,qMet (fun y=>left (.int .u16 y)) S,[],0⟩:=HN3.out.keep (G:=fun _=>False) (by have:=HWd.out;subst this;exact Mod.of_below Br.drew _) fun _ _ g=>g
   have hnx:V1 x=.slice none 0 0:=HC.out.nil x HLk.out;obtain⟨w6,hrun,hn6,hm6⟩:=hnd.store x HX.out.1 HX.out.2.1 (w1:=w5) (Mod.of_below hb5 _) v5 (S.q x) hs5 hel5 (by
    rw[hnx];cases hq:v5.ownBlock with
    |none=>exact .inl rfl
    |some k=>exact .inr ⟨k,rfl,(hv5 k hq).1⟩) (fun k hk=>(hv5 k hk).2) HX.out.2.2.1
   have hps:x∉ps:=fun g=>by
    have:=((HC.out.ps x).1 g).2;rw[HLk.out] at this;cases this
   have hqs:updQ (qMet (fun y=>left (.int .u16 y)) S) x (S.q x)=qMet (fun y=>left (.int .u16 y)&& !(Lit.int .u16 y).sameKey (.int .u16 x)) S:=by
    funext y
    unfold qMet
    by_cases e:y=x
    ·subst e;rw[updQ_same];simp[Lit.sameKey]
    ·rw[updQ_other _ _ _ e];have:(Lit.int .u16 y).sameKey (.int .u16 x)=false:=by simp[Lit.sameKey];omega
     simp[this]
   have hz5:=hbr.size;have hz6:=hm6.size;have hzr:=HC.out.r0;have hz3:=HZ.out;have hmb:mb<wd.heap.size:=hnd.lt mb (.inr (.inl rfl));have hom:om≠mb:=by have:=H.out.lt om (.inr (.inl rfl));have:=HC.out.m0.1;omega
   have hrg6:w6.ranges Tryz.prog 31 slcElem om r n D (fun z=>left z&& !z.sameKey (.int .u16 x)) cnt2:=(ranges_below' HR3.out hbr).kept (row:=some mb) ⟨hm6.os,hm6.tape,hm6.output,hm6.size,fun k hk hne=>hm6.block k hk (by simpa using hne)⟩ (by simpa using hom) (by have:=HC.out.m0.2;simp;omega);have fin:cpRel w om S D n r nb mb w6:=by
    refine⟨_,cnt2,updQ V1 x v5,x::ps,hrg6,⟨?_,fun y=> ?_,fun y hy=> ?_,fun y k hk=> ?_,Mod.below (bQ HB3.out hbr) hm6 (by have:=HB3.out.size;omega) fun k _ e=>by subst e;exact HC.out.m0.1,HC.out.n0,HC.out.m0,⟨HC.out.r0.1,by omega⟩⟩⟩
    ·have:=hn6;unfold qSet putPort at this;rw[if_neg hps,hqs] at this;exact this
    ·rw[List.mem_cons,HC.out.ps]
     by_cases e:y=x
     ·subst e;simp[Lit.sameKey];exact HX.out.2.2.2
     ·have:(Lit.int .u16 y).sameKey (.int .u16 x)=false:=by simp[Lit.sameKey];omega
      simp[this,e]
    ·by_cases e:y=x
     ·subst e;simp[Lit.sameKey] at hy
     ·rw[updQ_other _ _ _ e];exact HC.out.nil y (by simp at hy;exact hy.1)
    ·by_cases e:y=x
     ·subst e;rw[updQ_same] at hk;have:=hv5 k hk;have h3:wd.heap.size=w3.heap.size:=by rw[HWd.out];rfl
      have:=HB3.out.size;exact⟨by omega,by omega⟩
     ·rw[updQ_other _ _ _ e] at hk;exact HC.out.own y k hk
   have Fin:=Lh fin;have hml:w6.rangeLeft om r<cnt:=by rw[hrg6.left_eq];exact HLt.out
   have hml0:=Hrg.out.left_eq;have HMl:Hid (w6.rangeLeft om r<wr.rangeLeft om r):=Lh (by rw[hml0];exact hml);have HRun:=Lh hrun;have HS5:=Lh (HS.out w5 hbr);have HS6:Hid (w6.cell? ⟨nb,0,none⟩=some (.map (some mb))∧True):=Lh ⟨hn6.cellMap,trivial⟩;clear fin hml hml0 hrun hrg6 hom hmb hz3 hzr hz6 hz5 hqs hps hn6 hm6 hnx hnd hbr hs5 hel5 hv5 hb5 HB3 HN3 HR3 HLt HX HC Hrg H HZ HWd HCl;refine V hK HS5.out ?_;clear hK K;refine U 7 fun K hK=> ?_
   have hrun:=HRun.out;go_simp;refine V hK HS6.out ?_;clear hK K;clear hrun;refine wpAnyH_done (by kernel_rfl) ?_ _;go_wp2;exact⟨Fin.out,HMl.out⟩
end
end Ni
end Go.Proofs.YtjjdjpdmgaipeaaGreat
