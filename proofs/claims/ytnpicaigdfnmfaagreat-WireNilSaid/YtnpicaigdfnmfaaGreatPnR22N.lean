/- R22N, ReadA, RdP, Rd22, Law22, XoE, XoF in one text. -/
import Derived.Test.YtnpicaigdfnmfaaGreatPnR19F
import Derived.Test.YtnpicaigdfnmfaaGreatPnKdoG
import Derived.Deep.Slices
import Derived.Deep.Fields
import Derived.ChangeSame
import Derived.SizedLaws
import Derived.ChangeArms
import Derived.Below
import Derived.OpenShut
import Derived.Test.YtnpicaigdfnmfaaGreatPnRegT
import Derived.Test.YtnpicaigdfnmfaaGreatPnXoA
import Derived.Test.YtnpicaigdfnmfaaGreatPnTskGW
import Derived.Test.YtnpicaigdfnmfaaGreatPnRspW
import Derived.Test.YtnpicaigdfnmfaaGreatPnGraG
import Derived.Test.YtnpicaigdfnmfaaGreatPnPag
import Derived.Test.YtnpicaigdfnmfaaGreatPnSl21
import Derived.Test.YtnpicaigdfnmfaaGreatPnGrantG
import Derived.BigQuiet
import Derived.Laws.MakeOwn
import Derived.Test.YtnpicaigdfnmfaaGreatPnZa
set_option linter.unusedVariables false
set_option linter.unusedSimpArgs false
set_option maxRecDepth 100000
set_option maxHeartbeats 16000000
open Go.Proofs.Tryz
namespace Go.Proofs.YtnpicaigdfnmfaaGreat
open Go.RowKit
theorem Rkl.addRow{w w1 w2:World}{a:RkAt}{K:Kn}(h:Rkl w a K)(hb:Below w.heap.size w w1){v bv':Value}{l:List ByteArray}(hv:SlV w1 9 1 v l.length (l.map .string))(hvn:∀k,v.ownBlock=some k→w.heap.size≤k∧k<w1.heap.size)(h0:K.B.length=0→a.bv=.slice none 0 0)
  (ho:SlV w2 265 1 bv' (a.rows.length+1) (a.rows++[v])) (hm:Mod (fun k=>a.bv.ownBlock=some k) w1 w2) (hbv:bv'.ownBlock=a.bv.ownBlock∨∃k,bv'.ownBlock=some k∧w1.heap.size≤k) (hbl:∀k,bv'.ownBlock=some k→k<w2.heap.size) (hs:∀s,s∈l→s.size=64) (hl:l.length≤1024) (hB:K.B.length<16) (hx2:RwV (w2.setCell ⟨a.kb,2,none⟩ bv') 1 a.c.hv K.hx.length (K.hx.map (Value.int .u32))):
  ∃a',Rkl (w2.setCell ⟨a.kb,2,none⟩ bv') a' { K with B:=K.B++[l] }∧a'.kb=a.kb∧a'.bv=bv'∧a'.c=a.c∧a'.n=a.n∧∀k,a'.tag k≠0→a.tag k≠0∧a'.tag k=a.tag k∨w.heap.size≤k∧a'.tag k=5:=by
 have hz1:=hb.size;have hz2:=hm.size;have hzs:(w2.setCell ⟨a.kb,2,none⟩ bv').heap.size=w2.heap.size:=by simp[World.setCell]
 -- what the old outer slice's block may be
 have hty:∀k,a.bv.ownBlock=some k→∃cur,w1.heap[k]? =some (.cells cur 265 (0,0)):=fun k hk=>by
  rcases h.outer.2 with⟨e,_⟩|⟨g,off,cap,cur,e,hg,_⟩
  ·rw[h0 (by rw[←h.len];exact e)] at hk;cases hk
  ·rw[e] at hk;cases hk;exact⟨cur,(hb.block _ (lQ hg)).trans hg⟩
 have hset:=(Mod.setCell (F:=fun i=>i=a.kb) (Mod.refl _ w2) ⟨a.kb,2,none⟩ (.inl rfl) bv');have hM:Mod (fun k=>k=a.kb∨a.bv.ownBlock=some k) w (w2.setCell ⟨a.kb,2,none⟩ bv'):=((Mod.of_below hb _).trans (hm.mono fun k _ g=>.inr g) fun i _ g=>.inl g).trans hset fun i _ g=>.inl (.inl g)
 have hkl:=lQ h.head;have hbk:a.bv.ownBlock≠some a.kb:=fun e=>by have:=h.t5 _ (.inr (.inl e));rw[h.t1] at this;omega
 have hvk:v.ownBlock≠some a.kb:=fun e=>by have:=(hvn _ e).1;omega
 have hb'k:bv'.ownBlock≠some a.kb:=fun e=>by
  rcases hbv with g|⟨k,g,gk⟩
  ·exact hbk (g▸e)
  ·rw[g] at e;cases e;omega
 have hhead:=(hm.block _ (Nat.lt_of_lt_of_le hkl hz1) hbk).trans ((hb.block _ hkl).trans h.head);have keepS:∀ {ty:TypeId} {s n:Nat} {u:Value} {xs:List Value},SlV w1 ty s u n xs→265≠ty→(∀k,u.ownBlock=some k→k≠a.kb)→SlV (w2.setCell ⟨a.kb,2,none⟩ bv') ty s u n xs:=fun hu hne hk=>by
  refine SlV.mod ?_ hset fun k g e=>hk k g e
  refine⟨hu.1, ?_⟩;rcases hu.2 with g|⟨g,off,cap,cur,rfl,hgg,rest⟩
  ·exact .inl g
  ·refine .inr ⟨g,off,cap,cur,rfl,(hm.block _ (lQ hgg) fun e=> ?_).trans hgg,rest⟩;obtain⟨cur',hc⟩:=hty g e;rw[hgg] at hc;cases hc;exact hne rfl
 have hnot:∀k,a.tag k≠1→a.tag k≠5→¬(k=a.kb∨a.bv.ownBlock=some k):=fun k h1 h5 g=>g.elim (fun e=>h1 (e▸h.t1)) fun e=>h5 (h.t5 k (.inr (.inl e)))
 have ne1:∀k,a.tag k≠1→k≠a.kb:=fun k h1 e=>h1 (e▸h.t1)
 have old:∀k,a.tag k≠0→KStep.grow w (w2.setCell ⟨a.kb,2,none⟩ bv') a.tag 5 k=a.tag k:=fun k hk=>KStep.grow_old (h.lt k hk)
 refine⟨{ a with bv:=bv',rows:=a.rows++[v],tag:=KStep.grow w (w2.setCell ⟨a.kb,2,none⟩ bv') a.tag 5 }, ?_,rfl,rfl,rfl,rfl,fun k hk=> ?_⟩
 ·exact {
      head:=heap_setCell_same w2 a.kb 2 _ _ bv' hhead
      hx:=hx2
      caps:=h.caps.mod hM fun k hk=>hnot k (by rw[h.t2 k hk];decide) (by rw[h.t2 k hk];decide)
      nic:=h.nic.mod hM fun k hk=>hnot k (by rw[h.t3 k hk];decide) (by rw[h.t3 k hk];decide)
      len:=by show(a.rows++[v]).length=(K.B++[l]).length;simp[h.len]
      outer:=by
       show SlV _ _ 1 bv' (a.rows++[v]).length (a.rows++[v])
       rw[List.length_append,List.length_singleton];exact ho.mod hset fun k hk e=>hb'k (e▸hk)
      inner:=fun i u m hu hml=>by
       have hu:(a.rows++[v])[i]? =some u:=hu;have hml:(K.B++[l])[i]? =some m:=hml;rcases Nat.lt_or_ge i a.rows.length with q|q
       ·rw[List.getElem?_append_left q] at hu;rw[List.getElem?_append_left (by rw[←h.len];exact q)] at hml;exact keepS ((h.inner i u m hu hml).below hb) (by decide) fun k hk=>ne1 k (by rw[h.t5 k (.inr (.inr ⟨u,List.mem_of_getElem? hu,hk⟩))];decide)
       ·rw[List.getElem?_append_right q] at hu;rw[List.getElem?_append_right (by rw[←h.len];exact q)] at hml;have e:i - a.rows.length=0:=by
         have:=(List.getElem?_eq_some_iff.1 hu).1;simp at this;omega
        rw[e] at hu;rw[←h.len,e] at hml;simp at hu hml;subst hu;subst hml;exact keepS hv (by decide) fun k hk e=>by have:=(hvn k hk).1;omega
      bl:=⟨by show(K.B++[l]).length≤16;simp;omega,fun i m hml=>by
       have hml:(K.B++[l])[i]? =some m:=hml;rcases Nat.lt_or_ge i K.B.length with q|q
       ·rw[List.getElem?_append_left q] at hml;exact h.bl.2 i m hml
       ·rw[List.getElem?_append_right q] at hml;have e:i - K.B.length=0:=by
         have:=(List.getElem?_eq_some_iff.1 hml).1;simp at this;omega
        rw[e] at hml;simp at hml;subst hml;exact hl⟩
      ok:=⟨h.ok.n0,h.ok.n1,fun i m hml s hsm=>by
       have hml:(K.B++[l])[i]? =some m:=hml;rcases Nat.lt_or_ge i K.B.length with q|q
       ·rw[List.getElem?_append_left q] at hml;exact h.ok.bs i m hml s hsm
       ·rw[List.getElem?_append_right q] at hml;have e:i - K.B.length=0:=by
         have:=(List.getElem?_eq_some_iff.1 hml).1;simp at this;omega
        rw[e] at hml;simp at hml;subst hml;exact hs s hsm,h.ok.q,h.ok.hl,h.ok.g0⟩
      t1:=(old _ (by rw[h.t1];decide)).trans h.t1
      t2:=fun k hk=>(old _ (by rw[h.t2 k hk];decide)).trans (h.t2 k hk)
      t3:=fun k hk=>(old _ (by rw[h.t3 k hk];decide)).trans (h.t3 k hk)
      t5:=fun k hk=>by
       have new:w.heap.size≤k→k<w2.heap.size→KStep.grow w (w2.setCell ⟨a.kb,2,none⟩ bv') a.tag 5 k=5:=fun q1 q2=>by unfold KStep.grow;rw[if_neg (by omega),if_pos (by omega)]
       have was:((K.hx.length≠0∧a.c.hv.ownBlock=some k)∨a.bv.ownBlock=some k∨∃u,u∈a.rows∧u.ownBlock=some k)→KStep.grow w (w2.setCell ⟨a.kb,2,none⟩ bv') a.tag 5 k=5:=fun g=>(old _ (by rw[h.t5 k g];decide)).trans (h.t5 k g)
       show KStep.grow w (w2.setCell ⟨a.kb,2,none⟩ bv') a.tag 5 k=5
       rcases hk with g|g|⟨u,hu,g⟩
       ·exact was (.inl g)
       ·have g:bv'.ownBlock=some k:=g;rcases hbv with q|⟨q,q1,q2⟩
        ·exact was (.inr (.inl (q▸g)))
        ·rw[q1] at g;cases g;exact new (by omega) (hbl _ q1)
       ·rcases List.mem_append.1 hu with q|q
        ·exact was (.inr (.inr ⟨u,q,g⟩))
        ·simp at q;subst q;have:=hvn k g;exact new this.1 (by omega)
      lt:=fun k hk=>by
       have hk:KStep.grow w (w2.setCell ⟨a.kb,2,none⟩ bv') a.tag 5 k≠0:=hk;unfold KStep.grow at hk
       split at hk
       ·omega
       ·split at hk
        ·assumption
        ·exact absurd rfl hk }
 ·have hk:KStep.grow w (w2.setCell ⟨a.kb,2,none⟩ bv') a.tag 5 k≠0:=hk;rcases Nat.lt_or_ge k w.heap.size with q|q
  ·rw[KStep.grow_old q] at hk;exact .inl ⟨hk,KStep.grow_old q⟩
  ·refine .inr ⟨q, ?_⟩
   show KStep.grow w (w2.setCell ⟨a.kb,2,none⟩ bv') a.tag 5 k=5
   unfold KStep.grow at hk⊢;rw[if_neg (by omega)] at hk⊢
   split at hk
   ·rename_i z;rw[if_pos z]
   ·exact absurd rfl hk
theorem Rkl.first{w:World}{cb nb kb:Nat}{hp:Int}{xs:List Int}{hv:Value}(hc:w.heap[cb]? =some (.cells #[.int .u32 hp,hv,.slice none 0 0] 300 (0,0)))(hn:w.heap[nb]? =some (.cells #[.slice none 0 0,.slice none 0 0,.int .i64 0] 303 (0,0)))(hkk:w.heap[kb]? =some (.cells #[.pointer (some ⟨cb,0,none⟩),.pointer (some ⟨nb,0,none⟩),.slice none 0 0,.int .u32 0] 222 (0,0)))
  (hx:RwV w 1 hv xs.length (xs.map (Value.int .u32))) (hh:Ca.hardOk hp xs=true) (p0:0≤hp) (hvb:∀k,xs.length≠0→hv.ownBlock=some k→k<w.heap.size∧k≠cb∧k≠nb∧k≠kb):
  ∃a,Rkl w a ⟨hp,xs,fun _=>none,Ni.newS,[],0⟩∧a.kb=kb∧a.c.hv=hv∧a.bv=.slice none 0 0∧∀k,a.tag k≠0→(k=cb∨k=nb∨k=kb)∨(xs.length≠0∧hv.ownBlock=some k)∧a.tag k=5:=by
 have n1:cb≠nb:=fun e=>by rw[e,hn] at hc;have:=cells_ty hc;exact absurd this (by decide)
 have n2:cb≠kb:=fun e=>by rw[e,hkk] at hc;have:=cells_ty hc;exact absurd this (by decide)
 have n3:nb≠kb:=fun e=>by rw[e,hkk] at hn;have:=cells_ty hn;exact absurd this (by decide)
 have hln:hp≤4096∧xs.length≤16:=by
  unfold Ca.hardOk at hh;simp only[Bool.and_eq_true,decide_eq_true_eq] at hh;exact hh.1
 obtain⟨T,hT⟩:∃T:Nat→Nat,T=fun k=>if k=kb then 1 else if k=cb then 2 else if k=nb then 3 else if xs.length≠0∧hv.ownBlock=some k then 5 else 0:=⟨_,rfl⟩
 have t1:T kb=1:=by rw[hT];exact if_pos rfl
 have t2:T cb=2:=by rw[hT];show(if cb=kb then 1 else _)=2;rw[if_neg n2,if_pos rfl]
 have t3:T nb=3:=by rw[hT];show(if nb=kb then 1 else _)=3;rw[if_neg n3,if_neg (fun e=>n1 e.symm),if_pos rfl]
 have t5:∀k,xs.length≠0∧hv.ownBlock=some k→T k=5:=fun k g=>by
  have:=hvb k g.1 g.2;rw[hT]
  show(if k=kb then 1 else _)=5
  rw[if_neg this.2.2.2,if_neg this.2.1,if_neg this.2.2.1,if_pos g]
 have t0:∀k,T k≠0→(k=cb∨k=nb∨k=kb)∨(xs.length≠0∧hv.ownBlock=some k)∧T k=5:=fun k hk=>by
  by_cases e1:k=kb
  ·exact .inl (.inr (.inr e1))
  by_cases e2:k=cb
  ·exact .inl (.inl e2)
  by_cases e3:k=nb
  ·exact .inl (.inr (.inl e3))
  by_cases e4:xs.length≠0∧hv.ownBlock=some k
  ·exact .inr ⟨e4,t5 k e4⟩
  ·rw[hT] at hk;have hk:(if k=kb then 1 else _)≠0:=hk;rw[if_neg e1,if_neg e2,if_neg e3,if_neg e4] at hk;exact absurd rfl hk
 refine⟨⟨kb,⟨cb,hv,.slice none 0 0,[]⟩,⟨nb,.slice none 0 0,.slice none 0 0,[]⟩,.slice none 0 0,[],T⟩, ?_,rfl,rfl,rfl,t0⟩;exact {
     head:=hkk
     hx:=hx
     caps:= { head:=hc,row:=SlV.nil _ _ _,mns:=fun x hx=>(by cases hx),can:=rfl,ok:=⟨fun n g hg=>(by cases hg),fun n hn=>(by cases hn),p0,fun n g hg=>(by cases hg),hln.1⟩ }
     nic:= { head:=hn,row:=SlV.nil _ _ _,out:=SlV.nil _ _ _,q:=fun x=>rfl,pt:=fun y hy=>(by cases hy),q8:=fun x=>Nat.zero_le _,lr:=fun k hk=>(by cases hk),sr:=fun k hk=>(by cases hk) }
     len:=rfl
     outer:=SlV.nil _ _ _
     inner:=fun i v l hv=>by simp at hv
     bl:=⟨Nat.zero_le _,fun i l hl=>by simp at hl⟩
     ok:=⟨Int.le_refl 0,by show(0:Int)≤_;omega,fun i l hl=>by simp at hl,fun x s hs=>by simp[Ni.newS] at hs,by show xs.length≤_;omega,Int.le_refl 0⟩
     t1:=t1
     t2:=fun k hk=>by
      rcases hk with(g|g)|⟨x,hx,_⟩
      ·have g:k=cb:=g;subst g;exact t2
      ·cases g
      ·cases hx
     t3:=fun k hk=>by
      rcases hk with g|g|g
      ·have g:k=nb:=g;subst g;exact t3
      ·cases g
      ·cases g
     t5:=fun k hk=>by
      rcases hk with g|g|⟨x,hx,_⟩
      ·exact t5 k g
      ·cases g
      ·cases hx
     lt:=fun k hk=>by
      rcases t0 k hk with(g|g|g)|⟨g,_⟩
      ·rw[g];exact lQ hc
      ·rw[g];exact lQ hn
      ·rw[g];exact lQ hkk
      ·exact(hvb k g.1 g.2).1 }
namespace Rk
def NewP(w:World)(hp:Int)(xs:List Int)(hv:Value)(e:Ending)(w':World):Prop:=
 ∃b,e=.returned (.pointer (some ⟨b.kb,0,none⟩))∧Rkl w' b (Kn.new hp xs)∧b.c.hv=hv∧(∀k,b.tag k≠0→w.heap.size≤k∨b.tag k=5∧xs.length≠0∧hv.ownBlock=some k)∧Below w.heap.size w w'
def nwO(w:World)(hp:Int)(xs:List Int)(hv:Value)(kb:Nat)(vi:Value)(wr:World):Prop:=
 ∃(i:Nat) (b:RkAt),i≤xs.length∧vi=.int .i64 i∧Rkl wr b ⟨hp,xs,fun _=>none,Ni.newS,(xs.take i).map fun n=>List.replicate n.toNat z64,0⟩∧b.kb=kb∧b.c.hv=hv∧(i=0→b.bv=.slice none 0 0)∧(∀k,b.tag k≠0→w.heap.size<k∨k<w.heap.size∧b.tag k=5∧xs.length≠0∧hv.ownBlock=some k)∧(∀k,b.bv.ownBlock=some k→w.heap.size<k)∧Below w.heap.size w wr∧wr.heap[w.heap.size]? =some (.cells #[.int .u32 hp,hv] 120 (0,0))
def nwI(wo:World)(x:Nat)(vl vn:Value)(wr:World):Prop:=
 ∃n:Nat,n≤x∧vn=.int .u32 n∧SlV wr 9 1 vl n (List.replicate n (.string z64))∧(∀k,vl.ownBlock=some k→wo.heap.size≤k∧k<wr.heap.size)∧Below wo.heap.size wo wr
theorem new{w:World}{a:Option Addr}{cap:Nat}{hp:Int}{xs:List Int}(h:Rs.Words w a xs)(hb0:∀x,x∈xs→0≤x∧x≤4294967295)(p0:0≤hp)(hk:Ca.hardOk hp xs=true):
  Calls Tryz.prog 92 #[.agg #[.int .u32 hp,.slice a xs.length cap]] w (NewP w hp xs (.slice a xs.length cap)):=by
 have hln:xs.length≤16∧∀x,x∈xs→x≤1024:=by
  unfold Ca.hardOk at hk;simp only[Bool.and_eq_true,decide_eq_true_eq,List.all_eq_true] at hk;exact⟨hk.1.2,hk.2⟩
 have hmk:∀W:World,(Instr.makeSlice 43 (.int .i64 64) (.int .i64 64)).run Tryz.prog W=.ok (.slice (some ⟨W.heap.size,0,none⟩) 64 64) (W.alloc (.cells (List.replicate 64 (Value.int .u8 0)).toArray 5)):=fun W=>run_makeBytes 64 (by decide) W
 have hms:∀W:World,(convert 43 9 (.slice (some ⟨W.heap.size,0,none⟩) 64 64)).run Tryz.prog (W.alloc (.cells (List.replicate 64 (Value.int .u8 0)).toArray 5))=.ok (.string z64) (W.alloc (.cells (List.replicate 64 (Value.int .u8 0)).toArray 5)):=fun W=>made_str 64 W
 obtain⟨arr,harr⟩:∃arr,arr=(List.replicate 64 (Value.int .u8 0)).toArray:=⟨_,rfl⟩;rw[←harr] at hmk hms;have Hmk:=Lh hmk;have Hms:=Lh hms;clear harr hmk hms;obtain⟨hv,hhv⟩:∃hv,hv=Value.slice a xs.length cap:=⟨_,rfl⟩;have hrw:RwV w 1 (.slice a xs.length cap) xs.length (xs.map (Value.int .u32)):=⟨by simp,⟨a,cap,rfl,Ca.words_at h⟩,by unfold maxLen;omega⟩;have hob:∀k,xs.length≠0→(Value.slice a xs.length cap).ownBlock=some k→k<w.heap.size:=fun k hl hk=>by
  obtain⟨g,o,e,hc⟩:=h.cell 0 (by omega);rw[e] at hk;cases hk;unfold World.cell? at hc;cases hg:w.heap[g]? with
  |none=>rw[hg] at hc;cases hc
  |some _=>exact lQ hg
 obtain⟨i0,hi0,hz0,hz1,hz2⟩:=Ni.infoStr';obtain⟨i1,hi1,hy0,hy1,hy2⟩:=info_parts info_strs;have HI:=Lh (And.intro hi0 (And.intro hz0 (And.intro hz1 hz2)));have HJ:=Lh (And.intro hi1 (And.intro hy0 (And.intro hy1 hy2)));have HFin:Hid (∀V b,Rkl V b (Kn.new hp xs)→b.c.hv=hv→(∀k,b.tag k≠0→w.heap.size≤k∨b.tag k=5∧xs.length≠0∧hv.ownBlock=some k)→Below w.heap.size w V→NewP w hp xs hv (.returned (.pointer (some ⟨b.kb,0,none⟩))) V):=Lh fun V b k1 k2 k3 k4=>⟨b,rfl,k1,k2,k3,k4⟩
 have hst:nwO w hp xs hv (w.heap.size+3) (.int .i64 0) ((((w.alloc (.cells #[.int .u32 hp,.slice a xs.length cap] 120)).alloc (.cells #[.int .u32 hp,.slice a xs.length cap,.slice none 0 0] 300)).alloc (.cells #[.slice none 0 0,.slice none 0 0,.int .i64 0] 303)).alloc (.cells #[.pointer (some ⟨w.heap.size+1,0,none⟩),.pointer (some ⟨w.heap.size+2,0,none⟩),.slice none 0 0,.int .u32 0] 222)):=by
  have g0:=heap_alloc_new w (.cells #[.int .u32 hp,.slice a xs.length cap] 120);have z0:(w.alloc (.cells #[.int .u32 hp,.slice a xs.length cap] 120)).heap.size=w.heap.size+1:=by simp
  have b0:Below w.heap.size w (w.alloc (.cells #[.int .u32 hp,.slice a xs.length cap] 120)):=Ba _;generalize w.alloc (.cells #[.int .u32 hp,.slice a xs.length cap] 120)=w1 at*;have g1:=heap_alloc_new w1 (.cells #[.int .u32 hp,.slice a xs.length cap,.slice none 0 0] 300);have z1:(w1.alloc (.cells #[.int .u32 hp,.slice a xs.length cap,.slice none 0 0] 300)).heap.size=w.heap.size+2:=by simp[z0]
  have b1:Below w1.heap.size w1 (w1.alloc (.cells #[.int .u32 hp,.slice a xs.length cap,.slice none 0 0] 300)):=Ba _;rw[z0] at g1;generalize w1.alloc (.cells #[.int .u32 hp,.slice a xs.length cap,.slice none 0 0] 300)=w2 at*;have g2:=heap_alloc_new w2 (.cells #[.slice none 0 0,.slice none 0 0,.int .i64 0] 303);have z2:(w2.alloc (.cells #[.slice none 0 0,.slice none 0 0,.int .i64 0] 303)).heap.size=w.heap.size+3:=by simp[z1]
  have b2:Below w2.heap.size w2 (w2.alloc (.cells #[.slice none 0 0,.slice none 0 0,.int .i64 0] 303)):=Ba _;rw[z1] at g2;generalize w2.alloc (.cells #[.slice none 0 0,.slice none 0 0,.int .i64 0] 303)=w3 at*;have g3:=heap_alloc_new w3 (.cells #[.pointer (some ⟨w.heap.size+1,0,none⟩),.pointer (some ⟨w.heap.size+2,0,none⟩),.slice none 0 0,.int .u32 0] 222);have b3:Below w3.heap.size w3 (w3.alloc (.cells #[.pointer (some ⟨w.heap.size+1,0,none⟩),.pointer (some ⟨w.heap.size+2,0,none⟩),.slice none 0 0,.int .u32 0] 222)):=Ba _;rw[z2] at g3;generalize w3.alloc (.cells #[.pointer (some ⟨w.heap.size+1,0,none⟩),.pointer (some ⟨w.heap.size+2,0,none⟩),.slice none 0 0,.int .u32 0] 222)=w4 at*;have h2:=(b3.block _ (lQ g2)).trans g2;have b23:=bQ b2 b3;have h1:=(b23.block _ (lQ g1)).trans g1;have b13:=bQ b1 b23;have h0:=(b13.block _ (lQ g0)).trans g0;have b03:=bQ b0 b13;obtain⟨b,hb,q1,q2,q3,q4⟩:=Rkl.first h1 h2 g3 (hrw.below b03) hk p0 (fun k hn hk=>by have:=hob k hn hk;have:=b03.size;omega)
  refine⟨0,b,Nat.zero_le _,rfl,hb,q1,by rw[q2,hhv],fun _=>q3,fun k hk=> ?_,fun k hk=>(by rw[q3] at hk;cases hk),b03,by rw[hhv];exact h0⟩;rcases q4 k hk with g|g
  ·exact .inl (by omega)
  ·exact .inr ⟨hob k g.1.1 g.1.2,g.2,g.1.1,by rw[hhv];exact g.1.2⟩
 have HSt:=Lh hst;have HW:=Lh fun V (hV:Below w.heap.size w V)=>Ca.words_below h hV
 have HRw:=Lh fun V (hV:Below w.heap.size w V)=>hrw.below hV
 have HLn:=Lh hln;have HX0:=Lh hb0;have HHv:=Lh hhv;rw[←hhv];generalize NewP w hp xs hv=PQ at*;rw[hhv];clear hst h hrw hob hk hln hb0 hi0 hz0 hz1 hz2 hi1 hy0 hy1 hy2;go_enter func92,ntmps92;go_wp2;obtain⟨kb,hkb⟩:∃x,w.heap.size+3=x:=⟨_,rfl⟩;rw[hkb] at HSt⊢;clear hkb;go_loopw [4,5,6] (fun vi _ _ wr=>nwO w hp xs hv kb vi wr) (fun vi _ _ _=>xs.length - (intOf vi).toNat)
 case atStart=>exact HSt.out
 case round=>
  clear HSt;obtain⟨i,b,hi,rfl,hR,hkb,hhb,hb0,ht,hbn,hbw,hbox⟩:=hrel;obtain⟨c0,c1,_⟩:=two_of hbox;have HR:=Lh hR;have HT:=Lh ht;have HBw:=Lh hbw;have HBx:=Lh hbox;have HKb:=Lh hkb;have HHb:=Lh hhb;have HB0:=Lh hb0;have HBn:=Lh hbn;rw[HHv.out] at c1;clear hR ht hbw hbox hkb hhb hb0 hbn
  by_cases hin:i<xs.length
  ·have hx:xs[i]? =some xs[i]:=Zg hin;obtain⟨x,hxe⟩:∃x:Nat,xs[i]=(x:Int):=⟨xs[i].toNat,by have:=(HX0.out _ (List.getElem_mem hin)).1;omega⟩;have hx1:x≤1024:=by have:=HLn.out.2 _ (List.getElem_mem hin);omega
   rw[hxe] at hx;have HX:=Lh hx;have ii:(i:Int)<xs.length:=by omega
   clear hx c0;go_wp2;clear c1;generalize wr=wo at*;go_loopw [5,6] (fun vl vn w'=>nwI wo x vl vn w') (fun _ vn _=>x - (intOf vn).toNat)
   case atStart=>exact⟨0,Nat.zero_le _,rfl,SlV.nil _ _ _,fun k hk=>(by cases hk),Below.refl _ _⟩
   case round=>
    obtain⟨n,hn,rfl,hs,hown,hbi⟩:=hrel;have hbww:=bQ HBw.out hbi;obtain⟨c0,c1,_⟩:=two_of ((hbi.block _ (lQ HBx.out)).trans HBx.out);rw[HHv.out] at c1;obtain⟨g,o,ea,hc⟩:=(HW.out wr hbww).cell i hin;rw[hxe] at hc;have HS:=Lh hs;have HOw:=Lh hown;have HBi:=Lh hbi;clear hs hown hbi hbww;subst ea
    by_cases hnx:n<x
    ·have nn:(n:Int)<x:=by omega
     have nw:IntKind.u32.wrap ((n:Int)+1)=n+1:=wrap32 (by omega) (by omega);obtain⟨lo,lc,rfl⟩:=HS.out.form;have hA1:Below wr.heap.size wr (wr.alloc (.cells arr 5)):=Ba _;have hA2:Below wr.heap.size wr ((wr.alloc (.cells arr 5)).alloc (.cells #[.string z64] 9)):=hA1.alloc hA1.size _;have hz:((wr.alloc (.cells arr 5)).alloc (.cells #[.string z64] 9)).heap.size=wr.heap.size+2:=by simp
     have hnb:=heap_alloc_new (wr.alloc (.cells arr 5)) (.cells #[.string z64] 9);rw[show(wr.alloc (.cells arr 5)).heap.size=wr.heap.size+1 by simp] at hnb;have HNb:=Lh hnb;have HSA:=Lh (HS.out.below hA2);have HFI:Hid (∀v1 w2,SlV w2 9 1 v1 (n+1) (List.replicate n (.string z64)++[.string z64])→Mod (fun k=>(Value.slice lo n lc).ownBlock=some k) ((wr.alloc (.cells arr 5)).alloc (.cells #[.string z64] 9)) w2→(v1.ownBlock=(Value.slice lo n lc).ownBlock∨∃k,v1.ownBlock=some k∧((wr.alloc (.cells arr 5)).alloc (.cells #[.string z64] 9)).heap.size≤k)→nwI wo x v1 (.int .u32 ((n:Int)+1)) w2):=Lh fun v1 w2 q1 q2 q3=>by
      obtain⟨g,hg,hgl⟩:=q1.lt (by omega);have h2:=q2.size;have h3:=HBi.out.size;refine⟨n+1,hnx,by simp,by rw[List.replicate_succ'];exact q1,fun k hk=>⟨?_,by rw[hg] at hk;cases hk;exact hgl⟩,Mod.below (bQ HBi.out hA2) q2 (by omega) fun k _ hk=>(HOw.out k hk).1⟩;rcases q3 with e|⟨k',e,ek⟩
      ·exact(HOw.out k (e▸hk)).1
      ·rw[e] at hk;cases hk;omega
     have hmk:=Hmk.out;have hms:=Hms.out;clear hA1 hA2 hz hnb;go_wp2_with (at_builtin;refine wpList_append_slv _ (by rfl) _ _ _ (by rfl) 9 i0 (.string ByteArray.empty) 1 16 Tryz.underlying265 HI.out.1 HI.out.2.1 HI.out.2.2.1 HI.out.2.2.2 rfl (by omega) (.slice lo n lc) n (List.replicate n (.string z64)) (by rfl) HSA.out ⟨wr.heap.size+1,0,none⟩ 1 1 [.string z64] (by rfl) (by omega) (by rfl) (World.news_of_block (cs:= #[.string z64]) (t:=9) (fr:=(0,0)) HNb.out) (fun x hx=>by simp at hx;subst hx;rfl) (by unfold maxLen;omega) (by omega) ?_;intro v1 w2 q1 q2 q3;have R1:=Lh (HFI.out v1 w2 q1 q2 q3);obtain⟨o1,c1',e1⟩:=q1.form;subst e1;clear q1 q2 q3);exact⟨R1.out,by simp[intOf];omega⟩
    ·obtain rfl:n=x:=by omega
     have nn:¬(n:Int)<n:=by omega
     have hRo:=HR.out;obtain⟨bo,bc,hbv⟩:=hRo.outer.form;have hrl:b.rows.length=i:=by rw[hRo.len];simp;omega
     rw[hrl] at hbv;obtain⟨lo,lc,rfl⟩:=HS.out.form;have hAi:Below wo.heap.size wo (wr.alloc (.cells #[.slice lo n lc] 265)):=HBi.out.alloc HBi.out.size _;have hAr:Below wr.heap.size wr (wr.alloc (.cells #[.slice lo n lc] 265)):=Ba _;have hou:=(hRo.below hAi).outer;rw[hbv,hrl] at hou;have HOu:=Lh hou;have HNb:=Lh (heap_alloc_new wr (.cells #[.slice lo n lc] 265));have hk2:wr.cell? ⟨kb,2,none⟩=some (.slice bo i bc):=by
      have:=(hRo.below HBi.out).cells.2.2.1;rw[HKb.out,hbv] at this;exact this
     have HK2:Hid (∀w5,Mod (fun k=>(Value.slice bo i bc).ownBlock=some k) (wr.alloc (.cells #[.slice lo n lc] 265)) w5→w5.cell? ⟨kb,2,none⟩=some (.slice bo i bc)∧w5.frozen? ⟨kb,2,none⟩=false):=Lh fun w5 q2=>by
      have hRa:=hRo.below hAi;have hd:=hRa.head;have hne:(Value.slice bo i bc).ownBlock≠some b.kb:=fun e=>by
       have:=hRo.t5 _ (.inr (.inl (by rw[hbv];exact e)));rw[hRo.t1] at this;omega
      have hd5:=(q2.block _ (lQ hd) hne).trans hd;rw[HKb.out] at hd5;refine⟨?_, ?_⟩
      ·unfold World.cell?;rw[hd5,hbv];rfl
      ·unfold World.frozen?;rw[hd5];simp
     have HFO:Hid (∀v5 w5,SlV w5 265 1 v5 (i+1) (b.rows++[.slice lo n lc])→Mod (fun k=>(Value.slice bo i bc).ownBlock=some k) (wr.alloc (.cells #[.slice lo n lc] 265)) w5→(v5.ownBlock=(Value.slice bo i bc).ownBlock∨∃k,v5.ownBlock=some k∧(wr.alloc (.cells #[.slice lo n lc] 265)).heap.size≤k)→nwO w hp xs hv kb (.int .i64 ((i:Int)+1)) (w5.setCell ⟨kb,2,none⟩ v5)):=Lh fun v5 w5 q1 q2 q3=>by
      have hz1:=HBw.out.size;have hz2:=HBi.out.size;have hz3:=hAr.size;have hz4:=q2.size;have hkn:w.heap.size<kb:=by
       rcases HT.out b.kb (by rw[hRo.t1];decide) with g|⟨_,g,_⟩
       ·rw[HKb.out] at g;exact g
       ·rw[hRo.t1] at g;omega
      have hm6:Mod (fun k=>k=kb) w5 (w5.setCell ⟨kb,2,none⟩ v5):=Mod.setCell (F:=fun k=>k=kb) (Mod.refl _ _) ⟨kb,2,none⟩ (.inl rfl) _;have hb5:Below w.heap.size w w5:=Mod.below (bQ HBw.out hAi) q2 (by omega) fun k _ hk=>Nat.le_of_lt (HBn.out k (by rw[hbv];exact hk))
      have hb6:=Mod.below hb5 hm6 hb5.size fun k _ e=>by subst e;omega
      obtain⟨g,hg,hgl⟩:=q1.lt (by omega);obtain⟨a',k1,k2,k3,k4,k5,k6⟩:=Rkl.addRow (w:=wo) (v:=.slice lo n lc) (bv':=v5) (l:=List.replicate n z64) hRo hAi (by rw[List.length_replicate,List.map_replicate];exact HS.out.below hAr) (fun k hk=>⟨(HOw.out k hk).1,by have:=(HOw.out k hk).2;omega⟩) (fun e=>HB0.out (by first|(rw[List.length_map,List.length_take] at e;omega)|(have e:=congrArg List.length e;rw[List.length_map,List.length_take] at e;simp at e;omega))) (by rw[hrl];exact q1) (by rw[hbv];exact q2) (by rw[hbv];exact q3) (fun k hk=>by rw[hg] at hk;cases hk;exact hgl) (fun s hs=>by rw[List.eq_of_mem_replicate hs,z64_size]) (by rw[List.length_replicate];omega) (by have:=HLn.out.1;simp;omega) (by rw[HKb.out,HHb.out,HHv.out];exact HRw.out _ hb6);rw[HKb.out] at k1;refine⟨i+1,a',hin,by simp, ?_,k2.trans HKb.out,by rw[k4];exact HHb.out,fun e=>absurd e (Nat.succ_ne_zero _),fun k hk=> ?_,fun k hk=> ?_,hb6, ?_⟩
      ·have e:(xs.take (i+1)).map (fun n=>List.replicate n.toNat z64)=(xs.take i).map (fun n=>List.replicate n.toNat z64)++[List.replicate n z64]:=by
        rw[List.take_add_one,HX.out]
        simp
       rw[e];exact k1
      ·rcases k6 k hk with⟨g1,g2⟩|⟨g1,g2⟩
       ·rw[g2];exact HT.out k g1
       ·exact .inl (by have:=lQ HBx.out;omega)
      ·rw[k3] at hk;rcases q3 with e|⟨k',e,ek⟩
       ·exact HBn.out k (by rw[hbv,←e];exact hk)
       ·rw[e] at hk;cases hk;have:=lQ HBx.out;omega
      ·have h1:=(hAi.block _ (lQ HBx.out)).trans HBx.out;have h2:=(q2.block _ (lQ h1) (fun e=>by have:=HBn.out _ (by rw[hbv];exact e);omega)).trans h1;exact(hm6.block _ (lQ h2) (by omega)).trans h2
     clear hAi hAr hou hRo hrl;have l16:=HLn.out.1;go_wp2_with (at_builtin;refine wpList_append_slv _ (by rfl) _ _ _ (by rfl) 265 i1 (.slice none 0 0) 1 24 Tryz.underlying220 HJ.out.1 HJ.out.2.1 HJ.out.2.2.1 HJ.out.2.2.2 rfl (by omega) (.slice bo i bc) i b.rows (by rfl) HOu.out ⟨wr.heap.size,0,none⟩ 1 1 [.slice lo n lc] (by rfl) (by omega) (by rfl) (World.news_of_block (cs:= #[.slice lo n lc]) (t:=265) (fr:=(0,0)) HNb.out) (fun x hx=>by simp at hx;subst hx;rfl) (by unfold maxLen;omega) (by omega) ?_;intro v5 w5 q1 q2 q3;have R1:=Lh (HFO.out v5 w5 q1 q2 q3);obtain⟨f1,f2⟩:=HK2.out w5 q2;obtain⟨o5,c5,e5⟩:=q1.form;subst e5;clear q1 q2 q3);exact⟨R1.out,by simp[intOf];omega⟩
  ·obtain rfl:i=xs.length:=by omega
   have nn:¬(xs.length:Int)<xs.length:=by omega
   have hRo:=HR.out;rw[List.take_length] at hRo;have HE:=HFin.out wr b hRo HHb.out (fun k hk=>(HT.out k hk).imp Nat.le_of_lt (·.2)) HBw.out;rw[HKb.out] at HE;have HE:=Lh HE;clear hRo;go_wp2
   first|exact HE.out|(go_ret;exact HE.out)
end Rk
end Go.Proofs.YtnpicaigdfnmfaaGreat
namespace Go.Proofs.YtnpicaigdfnmfaaGreat.Cp
open Go.RowKit
structure St.pre(w:World)(x:St):Prop where
 rrow:RowN .u32 w x.ra x.rn x.rf
 rbd:∀i,i<x.rn→0≤x.rf i∧x.rf i≤4294967295
 rlen:x.rn≤9223372036854775807
 p0:0≤x.pc
 p1:x.pc≤4294967295
 prow:RowN .u8 w x.pa x.pn x.pf
 pbd:∀i,i<x.pn→0≤x.pf i∧x.pf i≤255
 a0:0≤x.at'
 a1:x.at'≤65535
 crow:Code w x.ca x.cn x.cf
 cbd:∀i,i<x.cn→(x.cf i).ok
 w0:0≤x.wh
 w1:x.wh≤65535
end Go.Proofs.YtnpicaigdfnmfaaGreat.Cp
namespace Go.Proofs.YtnpicaigdfnmfaaGreat
open Go.RowKit
namespace Rk
theorem grant{w:World}{b:RkAt}{K:Kn}(h:Rkl w b K)(hl:K.hx.length≤16){n pg:Int}(p0:0≤pg){m:Mn}{ev pv:Value}(hm:MnIn w ev pv m)(hok:m.ok):
  Calls Tryz.prog 143 #[.pointer (some ⟨b.c.rb,0,none⟩),.int .i64 n,.agg (m.cells ev pv),.int .u32 pg] w fun e w'=>
   (Ca.grantE K.hp K.hx K.g n m pg≠0∧e=.returned (.int .i64 (Ca.grantE K.hp K.hx K.g n m pg))∧Below w.heap.size w w')∨
   (Ca.grantE K.hp K.hx K.g n m pg=0∧e=.returned (.int .i64 0)∧∃b',RkStep w w' b K b' { K with g:=Gp.upd K.g n (some ⟨m,pg,0⟩) }):=by
 refine(Rc.grant h.caps h.hx hl p0 hm hok).mono ?_;rintro e w' (g|⟨g1,g2,c,g3,g4,g5,g6,g7,g8⟩)
 ·exact .inl g
 ·refine .inr ⟨g1,g2,_,RkStep.setCaps h g3 g4 g5 (fun k hk=> ?_) (g8.mono fun k _ e=>.inl (.inl e))⟩;rcases hk with(z|z)|z
  ·exact .inl (.inl (.inl (by rw[z,g4])))
  ·exact .inr (g7 k z)
  ·exact(g6 k z).imp .inr id
end Rk
namespace Dx
def cells(D:Nat→Slt):Array Value:=((List.range 9).flatMap fun i=>Ex.slotC (D i)).toArray
theorem cells_at(D:Nat→Slt)(i j:Nat)(hi:i<9)(hj:j<3):(cells D)[i*3+j]? =(Ex.slotC (D i))[j]? :=by
 match i,hi with
 |0,_=>match j,hj with
  |0,_=>rfl
  |1,_=>rfl
  |2,_=>rfl
 |1,_=>match j,hj with
  |0,_=>rfl
  |1,_=>rfl
  |2,_=>rfl
 |2,_=>match j,hj with
  |0,_=>rfl
  |1,_=>rfl
  |2,_=>rfl
 |3,_=>match j,hj with
  |0,_=>rfl
  |1,_=>rfl
  |2,_=>rfl
 |4,_=>match j,hj with
  |0,_=>rfl
  |1,_=>rfl
  |2,_=>rfl
 |5,_=>match j,hj with
  |0,_=>rfl
  |1,_=>rfl
  |2,_=>rfl
 |6,_=>match j,hj with
  |0,_=>rfl
  |1,_=>rfl
  |2,_=>rfl
 |7,_=>match j,hj with
  |0,_=>rfl
  |1,_=>rfl
  |2,_=>rfl
 |8,_=>match j,hj with
  |0,_=>rfl
  |1,_=>rfl
  |2,_=>rfl
theorem cells_one(D:Nat→Slt)(s:Slt):(((cells D).setIfInBounds 3 (.bool s.is)).setIfInBounds 4 (.int .i64 s.pg)).setIfInBounds 5 (.pointer (s.env.map fun b=>⟨b,0,none⟩))=cells (Ex.upd D 1 s):=by
 have e:cells (Ex.upd D 1 s)=((Ex.slotC (D 0)++Ex.slotC s)++([2,3,4,5,6,7,8].flatMap fun i=>Ex.slotC (D i))).toArray:=rfl;rw[e];rfl
def D0:Nat→Slt:=fun _=>⟨false,0,none⟩
end Dx
structure Dx(w:World)(rb sb kb:Nat)(D:Nat→Slt)(tv:Value):Prop where
 blk:w.heap[rb]? =some (.cells #[.pointer (some ⟨kb,0,none⟩),.slice (some ⟨sb,0,none⟩) 9 9,tv] 137 (0,0))
 row:w.heap[sb]? =some (.cells (Dx.cells D) 133 (0,0))
namespace Dx
variable {w w':World} {rb sb kb:Nat} {D:Nat→Slt} {tv:Value}
theorem mod{F:Nat→Prop}(h:Dx w rb sb kb D tv)(hm:Mod F w w')(h1:¬F rb)(h2:¬F sb):Dx w' rb sb kb D tv:=⟨(hm.block _ (lQ h.blk) h1).trans h.blk,(hm.block _ (lQ h.row) h2).trans h.row⟩
theorem below(h:Dx w rb sb kb D tv)(hb:Below w.heap.size w w'):Dx w' rb sb kb D tv:=h.mod (Mod.of_below hb fun _=>False) id id
theorem head(h:Dx w rb sb kb D tv):w.cell? ⟨rb,0,none⟩=some (.pointer (some ⟨kb,0,none⟩))∧w.cell? ⟨rb,1,none⟩=some (.slice (some ⟨sb,0,none⟩) 9 9)∧w.cell? ⟨rb,2,none⟩=some tv:=by
 unfold World.cell?;rw[h.blk];exact⟨rfl,rfl,rfl⟩
theorem at'(h:Dx w rb sb kb D tv)(i:Nat)(hi:i<9):w.cell? ⟨sb,i*3,none⟩=some (.bool (D i).is)∧w.cell? ⟨sb,i*3+1,none⟩=some (.int .i64 (D i).pg)∧w.cell? ⟨sb,i*3+2,none⟩=some (.pointer ((D i).env.map fun b=>⟨b,0,none⟩))∧∀j,w.frozen? ⟨sb,j,none⟩=false:=by
 refine⟨?_, ?_, ?_,fun j=>by unfold World.frozen?;rw[h.row];simp⟩
 ·unfold World.cell?;rw[h.row];exact cells_at D i 0 hi (by omega)
 ·unfold World.cell?;rw[h.row];exact cells_at D i 1 hi (by omega)
 ·unfold World.cell?;rw[h.row];exact cells_at D i 2 hi (by omega)
theorem has(h:Dx w rb sb kb D tv)(n:Nat)(n1:1≤n)(n8:n≤8):Calls Tryz.prog 54 #[.pointer (some ⟨rb,0,none⟩),.int .i64 n] w fun e w'=>e=.returned (.bool (D n).is)∧w=w':=by
 obtain⟨c0,c1,c2⟩:=h.head;obtain⟨d0,d1,d2,_⟩:=h.at' n (by omega);have g1:(1:Int)≤n:=by omega
 have g8:(n:Int)≤8:=by omega
 have g9:(n:Int)<9:=by omega
 clear h;go_enter func54,ntmps54;go_wp2
 first|exact⟨rfl,rfl⟩|(go_ret;exact⟨rfl,rfl⟩)
theorem env(h:Dx w rb sb kb D tv)(n:Nat)(n1:1≤n)(n8:n≤8)(hs:(D n).is=true):Calls Tryz.prog 22 #[.pointer (some ⟨rb,0,none⟩),.int .i64 n] w fun e w'=>e=.returned (.pointer ((D n).env.map fun b=>⟨b,0,none⟩))∧w=w':=by
 have HH:=Lh (h.has n n1 n8);rw[hs] at HH;obtain⟨c0,c1,c2⟩:=h.head;obtain⟨d0,d1,d2,_⟩:=h.at' n (by omega);have g0:(0:Int)≤n:=by omega
 have g9:(n:Int)<9:=by omega
 clear h hs;go_enter func22,ntmps22;go_wp2_with fail;refine HH.out.mono ?_;rintro r w1 ⟨rfl,rfl⟩;go_wp2
 first|exact⟨rfl,rfl⟩|(go_ret;exact⟨rfl,rfl⟩)
theorem infoSlot:(Tryz.prog.info? 133).map (fun i=>(i.zero,i.size,i.bytes))=some (some (.agg #[.bool false,.int .i64 0,.pointer none]),3,24):=by kernel_rfl
theorem run_slots(w:World):(Instr.makeSlice 135 (.int .i64 9) (.int .i64 9)).run Tryz.prog w=.ok (.slice (some ⟨w.heap.size,0,none⟩) 9 9) (w.alloc (.cells (cells D0) 133)):=by
 obtain⟨i0,hi,hz0,hz1,hz2⟩:=info_parts infoSlot;have h:=run_make (P:=Tryz.prog) w 135 133 i0 (.agg #[.bool false,.int .i64 0,.pointer none]) Tryz.underlying135 hi hz0 .i64 .i64 9 9 (by omega) (by omega) (by rw[hz2];omega) (by omega);have h':(Instr.makeSlice 135 (.int .i64 9) (.int .i64 9)).run Tryz.prog w=_:=h;rw[h',hz1];have e:madeCells (Value.agg #[.bool false,.int .i64 0,.pointer none]).cells ((9:Int).toNat*3)=cells D0:=by kernel_rfl
 rw[e];rfl
def NewP(w:World)(hp:Int)(xs:List Int)(hv:Value)(e:Ending)(w':World):Prop:=
 ∃(rb sb:Nat) (b:RkAt),e=.returned (.pointer (some ⟨rb,0,none⟩))∧Dx w' rb sb b.kb D0 (.slice none 0 0)∧Rkl w' b (Kn.new hp xs)∧(∀k,b.tag k≠0→w.heap.size≤k∨b.tag k=5∧xs.length≠0∧hv.ownBlock=some k)∧b.tag rb=0∧b.tag sb=0∧w.heap.size≤rb∧w.heap.size≤sb∧Below w.heap.size w w'
theorem new{w:World}{s:Option Addr}{cap:Nat}{hp:Int}{xs:List Int}(h:Rs.Words w s xs)(hb0:∀x,x∈xs→0≤x∧x≤4294967295)(p0:0≤hp)(hok:Ca.hardOk hp xs=true)(hvl:∀k,xs.length≠0→(Value.slice s xs.length cap).ownBlock=some k→k<w.heap.size):
  Calls Tryz.prog 52 #[.agg #[.int .u32 hp,.slice s xs.length cap]] w (NewP w hp xs (.slice s xs.length cap)):=by
 have HFin:=Lh fun V rb sb b (h1:Dx V rb sb b.kb D0 (.slice none 0 0)) (h2:Rkl V b (Kn.new hp xs)) (h3:∀k,b.tag k≠0→w.heap.size≤k∨b.tag k=5∧xs.length≠0∧(Value.slice s xs.length cap).ownBlock=some k) (h4:b.tag rb=0) (h5:b.tag sb=0) (h6:w.heap.size≤rb) (h7:w.heap.size≤sb) (h8:Below w.heap.size w V)=>(show NewP w hp xs (.slice s xs.length cap) (.returned (.pointer (some ⟨rb,0,none⟩))) V from⟨rb,sb,b,rfl,h1,h2,h3,h4,h5,h6,h7,h8⟩)
 generalize NewP w hp xs (.slice s xs.length cap)=PQ at*;have hb1:Below w.heap.size w (w.alloc (.cells #[.int .u32 hp,.slice s xs.length cap] 120)):=Ba _;have hn1:=heap_alloc_new w (.cells #[.int .u32 hp,.slice s xs.length cap] 120);obtain⟨w1,hw1⟩:∃y,w.alloc (.cells #[.int .u32 hp,.slice s xs.length cap] 120)=y:=⟨_,rfl⟩;obtain⟨hb,hhb⟩:∃y,w.heap.size=y:=⟨_,rfl⟩;rw[hw1] at hb1 hn1;rw[hhb] at hn1;have HNew:=Lh fun V (hV:Below w1.heap.size w1 V)=>Rk.new (cap:=cap) (Ca.words_below h (bQ hb1 hV)) hb0 p0 hok
 have HS:Hid (∀V,Below w1.heap.size w1 V→V.cell? ⟨hb,0,none⟩=some (.int .u32 hp)∧V.cell? ⟨hb,1,none⟩=some (.slice s xs.length cap)∧True):=Lh fun V hV=>by
  obtain⟨c0,c1,_⟩:=two_of ((hV.block _ (lQ hn1)).trans hn1);exact⟨c0,c1,trivial⟩
 have HB1:=Lh hb1;have HVl:=Lh hvl;clear h hb0 p0 hok hvl hb1 hn1;go_enter func52,ntmps52;go_wp2_with fail;try rw[hw1]
 try rw[hhb]
 clear hw1 hhb;refine B (fun V=>V.cell? ⟨hb,0,none⟩=some (.int .u32 hp)∧V.cell? ⟨hb,1,none⟩=some (.slice s xs.length cap)∧True) (HS.out _ Br.drew) fun wd hwd hS=> ?_
 have HBd:=Lh (show Below w1.heap.size w1 wd by rw[hwd];exact Br.drew);clear hwd;refine T 0 hS ?_;refine U2 1 2 (fun K' hK=> ?b1) (fun K' hK=> ?b2)
 case' b1=>
  go_simp;go_at_call 92;refine(HNew.out wd HBd.out).mono ?_;rintro r v2 ⟨b,rfl,hk2,hv2,ht2,hb2⟩;have hS2:=HS.out v2 (bQ HBd.out hb2);have HK2:=Lh hk2;have HT2:=Lh ht2;have HB2:=Lh (bQ HBd.out hb2);clear hk2 hv2 ht2 hb2 hS;refine V hK hS2 ?_;clear hK K';refine U 2 fun K' hK=> ?_
  have hmk:=run_slots v2;go_simp;clear hmk;have hb3:Below v2.heap.size v2 (v2.alloc (.cells (cells D0) 133)):=Ba _;have hn3:=heap_alloc_new v2 (.cells (cells D0) 133);have hS3:=HS.out _ (bQ HB2.out hb3);have HR3:=Lh hn3;have HK3:=Lh (HK2.out.below hb3);have HB3:=Lh (bQ HB2.out hb3);have HT3:=Lh (show(∀k,b.tag k≠0→w.heap.size≤k∨b.tag k=5∧xs.length≠0∧(Value.slice s xs.length cap).ownBlock=some k)∧b.tag v2.heap.size=0∧w.heap.size≤v2.heap.size from⟨fun k hk=>(HT2.out k hk).imp (fun q=>Nat.le_trans (Nat.le_trans HB1.out.size HBd.out.size) q) id,Decidable.byContradiction fun z=>absurd (HK2.out.lt _ z) (Nat.lt_irrefl _),Nat.le_trans HB1.out.size HB2.out.size⟩);refine V hK hS3 ?_;clear hK K' hS2 hb3 hn3 HK2 HT2;generalize v2.alloc (.cells (cells D0) 133)=v3 at*;generalize v2.heap.size=sb at*
 case' b2=>
  have hmk:=run_slots wd;go_simp;clear hmk;have hb2:Below wd.heap.size wd (wd.alloc (.cells (cells D0) 133)):=Ba _;have hn2:=heap_alloc_new wd (.cells (cells D0) 133);have hS2:=HS.out _ (bQ HBd.out hb2);have HR2:=Lh hn2;have HB2:=Lh (bQ HBd.out hb2);have HZ2:=Lh (show w.heap.size≤wd.heap.size from Nat.le_trans HB1.out.size HBd.out.size);refine V hK hS2 ?_;clear hK K' hS hb2 hn2;generalize wd.alloc (.cells (cells D0) 133)=v2 at*;generalize wd.heap.size=sb at*;refine U 1 fun K' hK=> ?_
  go_simp;go_at_call 92;refine(HNew.out v2 HB2.out).mono ?_;rintro r v3 ⟨b,rfl,hk3,hv3,ht3,hb3⟩;have hS3:=HS.out v3 (bQ HB2.out hb3);have HR3:=Lh ((hb3.block _ (lQ HR2.out)).trans HR2.out);have HK3:=Lh hk3;have HB3:=Lh (bQ HB2.out hb3);have HT3:=Lh (show(∀k,b.tag k≠0→w.heap.size≤k∨b.tag k=5∧xs.length≠0∧(Value.slice s xs.length cap).ownBlock=some k)∧b.tag sb=0∧w.heap.size≤sb from⟨fun k hk=>(ht3 k hk).imp (fun q=>Nat.le_trans (Nat.le_trans HB1.out.size HB2.out.size) q) id,Decidable.byContradiction fun z=>by
   rcases ht3 sb z with q|⟨_,q1,q2⟩
   ·have:=lQ HR2.out;omega
   ·have h1:=HVl.out sb q1 q2;have h2:=HZ2.out;omega,HZ2.out⟩)
  clear hk3 hv3 ht3 hb3 hS2;refine V hK hS3 ?_;clear hK K'
 all_goals
  refine T 3 hS3 ?_;refine U 4 fun K' hK=> ?_
  go_simp;have hb4:Below v3.heap.size v3 (v3.alloc (.cells #[.pointer (some ⟨b.kb,0,none⟩),.slice (some ⟨sb,0,none⟩) 9 9,.slice none 0 0] 137)):=Ba _;have hn4:=heap_alloc_new v3 (.cells #[.pointer (some ⟨b.kb,0,none⟩),.slice (some ⟨sb,0,none⟩) 9 9,.slice none 0 0] 137);have hS4:=HS.out _ (bQ HB3.out hb4);have HEnd:=Lh (HFin.out _ v3.heap.size sb b ⟨hn4,(hb4.block _ (lQ HR3.out)).trans HR3.out⟩ (HK3.out.below hb4) HT3.out.1 (Decidable.byContradiction fun z=>absurd (HK3.out.lt _ z) (Nat.lt_irrefl _)) HT3.out.2.1 (Nat.le_trans HB1.out.size HB3.out.size) HT3.out.2.2 (bQ HB1.out (bQ HB3.out hb4)));refine V hK hS4 ?_;clear hK K' hb4 hn4 hS3;refine T 5 hS4 ?_;refine wpAnyH_done (by kernel_rfl) ?_ _;clear hS4;go_wp2
  first|exact HEnd.out|(go_ret;exact HEnd.out)
theorem setOne(h:Dx w rb sb kb D tv)(s:Slt):Dx (((w.setCell ⟨sb,3,none⟩ (.bool s.is)).setCell ⟨sb,4,none⟩ (.int .i64 s.pg)).setCell ⟨sb,5,none⟩ (.pointer (s.env.map fun b=>⟨b,0,none⟩))) rb sb kb (Ex.upd D 1 s) tv:=by
 have hne:rb≠sb:=fun e=>by
  have h1:=h.blk;rw[e,h.row] at h1;have h2:=congrArg (fun o:Option Obj=>match o with|some (.cells _ t _)=>t|_=>0) h1
  revert h2
  show¬(133=137)
  decide
 refine⟨?_, ?_⟩
 ·have hm9:Mod (fun i=>i=sb) w (((w.setCell ⟨sb,3,none⟩ (.bool s.is)).setCell ⟨sb,4,none⟩ (.int .i64 s.pg)).setCell ⟨sb,5,none⟩ (.pointer (s.env.map fun b=>⟨b,0,none⟩))):=Mod.setCell (F:=fun i=>i=sb) (Mod.setCell (F:=fun i=>i=sb) (Mod.setCell (F:=fun i=>i=sb) (Mod.refl _ _) ⟨sb,3,none⟩ (.inl rfl) _) ⟨sb,4,none⟩ (.inl rfl) _) ⟨sb,5,none⟩ (.inl rfl) _;exact(hm9.block _ (lQ h.blk) hne).trans h.blk
 ·have b3:=heap_setCell_same _ sb 5 _ _ (.pointer (s.env.map fun b=>⟨b,0,none⟩)) (heap_setCell_same _ sb 4 _ _ (.int .i64 s.pg) (heap_setCell_same w sb 3 _ _ (.bool s.is) h.row));rw[cells_one] at b3;exact b3
def AdmitP(w:World)(rb sb:Nat)(D:Nat→Slt)(tv:Value)(b:RkAt)(K:Kn)(m:Mn)(pg:Int)(r:Ending)(w':World):Prop:=
 (Ca.grantE K.hp K.hx K.g 1 m pg≠0∧r=.returned (.tuple #[.int .i64 0,.int .i64 (Ca.grantE K.hp K.hx K.g 1 m pg)])∧Below w.heap.size w w')∨
 (Ca.grantE K.hp K.hx K.g 1 m pg=0∧r=.returned (.tuple #[.int .i64 1,.int .i64 0])∧∃b' v,RkStep w v b K b' { K with g:=Gp.upd K.g 1 (some ⟨m,pg,0⟩) }∧Mod (fun k=>k=sb) v w'∧Dx w' rb sb b'.kb (Ex.upd D 1 ⟨true,pg,none⟩) tv∧Rkl w' b' { K with g:=Gp.upd K.g 1 (some ⟨m,pg,0⟩) }∧b'.tag rb=0∧b'.tag sb=0)
theorem admit{w:World}{rb sb:Nat}{D:Nat→Slt}{tv:Value}{b:RkAt}{K:Kn}(h:Dx w rb sb b.kb D tv)(hk:Rkl w b K)(hl:K.hx.length≤16){m:Mn}{ev pv:Value}(hm:MnIn w ev pv m)(hok:m.ok){pg:Int}(pg0:0≤pg)(pg1:pg≤4096)(h1:(D 1).is=false)(hr:b.tag rb=0)(hs:b.tag sb=0):
  Calls Tryz.prog 94 #[.pointer (some ⟨rb,0,none⟩),.agg (m.cells ev pv),.int .i64 pg] w (AdmitP w rb sb D tv b K m pg):=by
 obtain⟨eo,ec,rfl⟩:=hm.e.form;obtain⟨po,pc,rfl⟩:=hm.p.form;have HFin1:=Lh fun V (g1:Ca.grantE K.hp K.hx K.g 1 m pg≠0) (g2:Below w.heap.size w V)=>(show AdmitP w rb sb D tv b K m pg (.returned (.tuple #[.int .i64 0,.int .i64 (Ca.grantE K.hp K.hx K.g 1 m pg)])) V from .inl ⟨g1,rfl,g2⟩)
 have HFin2:=Lh fun V (g1:Ca.grantE K.hp K.hx K.g 1 m pg=0) (g2:∃b' v,RkStep w v b K b' { K with g:=Gp.upd K.g 1 (some ⟨m,pg,0⟩) }∧Mod (fun k=>k=sb) v V∧Dx V rb sb b'.kb (Ex.upd D 1 ⟨true,pg,none⟩) tv∧Rkl V b' { K with g:=Gp.upd K.g 1 (some ⟨m,pg,0⟩) }∧b'.tag rb=0∧b'.tag sb=0)=>(show AdmitP w rb sb D tv b K m pg (.returned (.tuple #[.int .i64 1,.int .i64 0])) V from .inr ⟨g1,rfl,g2⟩)
 generalize AdmitP w rb sb D tv b K m pg=PQ at*;have hA:=(Below.refl w.heap.size w).alloc (Nat.le_refl _) (.cells (m.cells (.slice eo m.ext.length ec) (.slice po m.ports.length pc)) 109);have hM:=heap_alloc_new w (.cells (m.cells (.slice eo m.ext.length ec) (.slice po m.ports.length pc)) 109);have HXl:=Lh (And.intro (lQ h.blk) (lQ h.row));obtain⟨w1,hw1⟩:∃y,w.alloc (.cells (m.cells (.slice eo m.ext.length ec) (.slice po m.ports.length pc)) 109)=y:=⟨_,rfl⟩;obtain⟨mb,hmb⟩:∃y,w.heap.size=y:=⟨_,rfl⟩;rw[hw1] at hA hM;rw[hmb] at hM;have HX:=Lh fun V (hV:Below w1.heap.size w1 V)=>h.below (bQ hA hV)
 have HGr:=Lh fun V (hV:Below w1.heap.size w1 V)=>Rk.grant (hk.below (bQ hA hV)) hl (n:=1) (pg:=pg) pg0 (hm.below (bQ hA hV)) hok
 have HKk:=Lh fun V (hV:Below w1.heap.size w1 V)=>(hk.below (bQ hA hV)).cells.1
 have HA:=Lh hA;have HM:=Lh hM;have HXt:=Lh (And.intro hr hs);have HKl:=Lh hk;have HMt:=Lh (show b.tag mb=0 from Decidable.byContradiction fun z=>by have:=hk.lt _ z;omega);obtain⟨kb,hkb⟩:∃y,b.kb=y:=⟨_,rfl⟩;obtain⟨rk,hrk⟩:∃y,b.c.rb=y:=⟨_,rfl⟩;have HKb:=Lh (And.intro hkb hrk);rw[hkb,hrk] at HKk;rw[hrk] at HGr;have HS:Hid (∀V,Below w1.heap.size w1 V→V.cell? ⟨rb,0,none⟩=some (.pointer (some ⟨kb,0,none⟩))∧V.cell? ⟨kb,0,none⟩=some (.pointer (some ⟨rk,0,none⟩))∧V.cell? ⟨mb,0,none⟩=some (.int .u32 m.pages)∧V.cell? ⟨mb,1,none⟩=some (.slice eo m.ext.length ec)∧V.cell? ⟨mb,2,none⟩=some (.slice po m.ports.length pc)∧V.cell? ⟨mb,3,none⟩=some (.bool m.con)∧True):=Lh fun V hV=>by
  have q:=(hV.block _ (lQ HM.out)).trans HM.out;obtain⟨q0,q1,q2,q3,_⟩:=man_cells q;exact⟨by rw[←hkb];exact(HX.out V hV).head.1,HKk.out V hV,q0,q1,q2,q3,trivial⟩
 obtain⟨c0,c1,c2⟩:=(HX.out w1 Br).head;obtain⟨d0,d1,d2,_⟩:=(HX.out w1 Br).at' 1 (by omega);rw[h1] at d0;clear h hk hm hok h1 hr hs hA hM hkb hrk c2 d1 d2;unfold Mn.cells at hw1 HGr⊢;have wpg:IntKind.u32.wrap pg=pg:=wrap32 (by omega) (by omega);have a1:¬pg<0:=by omega
 have a2:¬pg>4096:=by omega
 go_enter func94,ntmps94;go_wp2;try rw[hw1]
 try rw[hmb]
 clear hw1 hmb;go_loop [8] (fun v=>v=.int .i64 1) (fun v=>0)
 case atStart=>rfl
 case round=>
  subst hrel;go_wp2_with fail;refine B (fun V=>V.cell? ⟨rb,0,none⟩=some (.pointer (some ⟨kb,0,none⟩))∧V.cell? ⟨kb,0,none⟩=some (.pointer (some ⟨rk,0,none⟩))∧V.cell? ⟨mb,0,none⟩=some (.int .u32 m.pages)∧V.cell? ⟨mb,1,none⟩=some (.slice eo m.ext.length ec)∧V.cell? ⟨mb,2,none⟩=some (.slice po m.ports.length pc)∧V.cell? ⟨mb,3,none⟩=some (.bool m.con)∧True) (HS.out _ Br.drew) fun wd hwd hS=> ?_
  have HBd:=Lh (show Below w1.heap.size w1 wd by rw[hwd];exact Br.drew);clear hwd c0 c1 d0;refine T 0 hS ?_;refine T 1 hS ?_;refine T 2 hS ?_;refine T 3 hS ?_;refine T 4 hS ?_;refine T 5 hS ?_;refine T 6 hS ?_;refine T 7 hS ?_;refine T 8 hS ?_;refine T 9 hS ?_;refine T 10 hS ?_;refine U 11 fun K' hK=> ?_
  go_simp;go_at_call 143;refine(HGr.out wd HBd.out).mono ?_;rintro r v8 (⟨hg,rfl,hb8⟩|⟨hg,rfl,b8,hs8⟩)
  ·have hS8:=HS.out v8 (bQ HBd.out hb8);have HEnd:=Lh (HFin1.out v8 hg (bQ HA.out (bQ HBd.out hb8)));have hgb:(Ca.grantE K.hp K.hx K.g 1 m pg != 0)=true:=bne_iff_ne.2 hg;clear hb8 hg HFin1 HFin2 HGr;generalize Ca.grantE K.hp K.hx K.g 1 m pg=gE at*;refine V hK hS8 ?_;clear hK K';refine T 12 hS8 ?_;refine wpAnyH_done (by kernel_rfl) ?_ _;clear hS8 hS;go_wp2
   first|exact HEnd.out|(go_ret2;exact HEnd.out)
  ·have hdz:=Nat.le_trans HA.out.size HBd.out.size;have hx8:=(HX.out wd HBd.out).mod hs8.mod (fun q=>q.1 HXt.out.1) (fun q=>q.1 HXt.out.2);have hq8:=(hs8.mod.block _ (Nat.lt_of_lt_of_le (lQ HM.out) HBd.out.size) (fun q=>q.1 HMt.out)).trans ((HBd.out.block _ (lQ HM.out)).trans HM.out);obtain⟨q0,q1,q2,q3,_⟩:=man_cells hq8;have hS8:v8.cell? ⟨rb,0,none⟩=some (.pointer (some ⟨kb,0,none⟩))∧v8.cell? ⟨kb,0,none⟩=some (.pointer (some ⟨rk,0,none⟩))∧v8.cell? ⟨mb,0,none⟩=some (.int .u32 m.pages)∧v8.cell? ⟨mb,1,none⟩=some (.slice eo m.ext.length ec)∧v8.cell? ⟨mb,2,none⟩=some (.slice po m.ports.length pc)∧v8.cell? ⟨mb,3,none⟩=some (.bool m.con)∧True:=⟨by rw[←HKb.out.1];exact hx8.head.1,by rw[←HKb.out.1,←HKb.out.2,←hs8.same.1,←hs8.same.2.1];exact hs8.k.cells.1,q0,q1,q2,q3,trivial⟩;have HX8:=Lh hx8;have HK8:=Lh ((RkStep.of_below HKl.out (bQ HA.out HBd.out)).trans hs8);have HT8:=Lh (show b8.tag rb=0∧b8.tag sb=0 from⟨(hs8.tag rb (Nat.lt_of_lt_of_le HXl.out.1 hdz)).trans HXt.out.1,(hs8.tag sb (Nat.lt_of_lt_of_le HXl.out.2 hdz)).trans HXt.out.2⟩);have HKb8:=Lh (show b8.kb=b.kb from hs8.same.1);have HG:=Lh hg;clear hdz hx8 hq8 q0 q1 q2 q3 hs8 hg HFin1 HGr HS HX HKk;refine V hK hS8 ?_;clear hK K';refine T 12 hS8 ?_;refine wpAnyH_done (by kernel_rfl) ?_ _;obtain⟨c0,c1,c2⟩:=HX8.out.head;obtain⟨e0,e1,e2,ef⟩:=HX8.out.at' 1 (by omega);have f0:=ef 3;have f1:=ef 4;have f2:=ef 5;clear ef hS hS8;go_wp2;have hset:Dx (((v8.setCell ⟨sb,3,none⟩ (.bool true)).setCell ⟨sb,4,none⟩ (.int .i64 pg)).setCell ⟨sb,5,none⟩ (.pointer none)) rb sb b.kb (Ex.upd D 1 ⟨true,pg,none⟩) tv:=HX8.out.setOne ⟨true,pg,none⟩;have hm9:Mod (fun i=>i=sb) v8 (((v8.setCell ⟨sb,3,none⟩ (.bool true)).setCell ⟨sb,4,none⟩ (.int .i64 pg)).setCell ⟨sb,5,none⟩ (.pointer none)):=Mod.setCell (F:=fun i=>i=sb) (Mod.setCell (F:=fun i=>i=sb) (Mod.setCell (F:=fun i=>i=sb) (Mod.refl _ _) ⟨sb,3,none⟩ (.inl rfl) _) ⟨sb,4,none⟩ (.inl rfl) _) ⟨sb,5,none⟩ (.inl rfl) _;have hend:=HFin2.out _ HG.out ⟨b8,v8,HK8.out,hm9,by rw[HKb8.out];exact hset,HK8.out.k.keep hm9 fun i hi e=>by subst e;exact hi HT8.out.2,HT8.out⟩
   first|exact hend|(go_ret2;exact hend)
def StartP(w:World)(rb sb kb:Nat)(D:Nat→Slt)(tv:Value)(pg pc:Int)(R:List Rp)(r:Ending)(w':World):Prop:=
 (pg<(R.length:Int)∧r=.returned (.int .i64 4)∧Below w.heap.size w w')∨
 ((R.length:Int)≤pg∧r=.returned (.int .i64 0)∧∃f C,Dx w' rb sb kb (Ex.upd D 1 ⟨true,pg,some f.eb⟩) tv∧Renv w' f C (En.new 1 pc (rpgs C))∧cores (rpgs C)=cores (rpgs R)∧(∀k,f.foot C k→w.heap.size≤k)∧Mod (fun k=>k=sb) w w')
theorem start{w:World}{rb sb kb mb:Nat}{D:Nat→Slt}{tv lv:Value}{R:List Rp}(h:Dx w rb sb kb D tv){pg:Int}(hd:D 1=⟨true,pg,none⟩)(hr:Rsp w mb lv R)(pc:Int)(p0:0≤pc)(p1:pc≤4294967295):
  Calls Tryz.prog 144 #[.pointer (some ⟨rb,0,none⟩),.int .i64 1,.pointer (some ⟨mb,0,none⟩),.int .u32 pc] w (StartP w rb sb kb D tv pg pc R):=by
 obtain⟨lo,lc,rfl,_⟩:=hr.row;have HFin1:=Lh fun V (g1:pg<(R.length:Int)) (g2:Below w.heap.size w V)=>(show StartP w rb sb kb D tv pg pc R (.returned (.int .i64 4)) V from .inl ⟨g1,rfl,g2⟩)
 have HFin2:=Lh fun V (g1:(R.length:Int)≤pg) (g2:∃f C,Dx V rb sb kb (Ex.upd D 1 ⟨true,pg,some f.eb⟩) tv∧Renv V f C (En.new 1 pc (rpgs C))∧cores (rpgs C)=cores (rpgs R)∧(∀k,f.foot C k→w.heap.size≤k)∧Mod (fun k=>k=sb) w V)=>(show StartP w rb sb kb D tv pg pc R (.returned (.int .i64 0)) V from .inr ⟨g1,rfl,g2⟩)
 generalize StartP w rb sb kb D tv pg pc R=PQ at*;have HH:Hid (Calls Tryz.prog 54 #[.pointer (some ⟨rb,0,none⟩),.int .i64 1] w fun e w'=>e=.returned (.bool true)∧w=w'):=Lh (by
  have:=h.has 1 (by omega) (by omega);rw[hd] at this;exact this)
 have HX:=Lh h;have HNw:=Lh fun V (hV:Below w.heap.size w V)=>Rv.new (hr.same hV) 1 pc (by omega) (by omega) p0 p1
 have HS:Hid (∀V,Below w.heap.size w V→V.cell? ⟨mb,0,none⟩=some (.slice lo R.length lc)∧V.cell? ⟨rb,1,none⟩=some (.slice (some ⟨sb,0,none⟩) 9 9)∧V.cell? ⟨sb,4,none⟩=some (.int .i64 pg)∧True):=Lh fun V hV=>by
  obtain⟨d0,d1,d2,_⟩:=(h.below hV).at' 1 (by omega);rw[hd] at d1;exact⟨(hr.same hV).cellHead,(h.below hV).head.2.1,d1,trivial⟩
 obtain⟨_,c1,_⟩:=h.head;obtain⟨_,d1,d2,_⟩:=h.at' 1 (by omega);rw[hd] at d1 d2;have d1:w.cell? ⟨sb,4,none⟩=some (.int .i64 pg):=d1;have d2:w.cell? ⟨sb,5,none⟩=some (.pointer none):=d2;have HXl:=Lh (And.intro (lQ h.blk) (lQ h.row));have HP0:=Lh (And.intro p0 p1);clear h hd hr p0 p1;go_enter func144,ntmps144;go_wp2_with fail;refine HH.out.mono ?_;rintro r w1 ⟨rfl,rfl⟩;go_wp2_with fail;refine B (fun V=>V.cell? ⟨mb,0,none⟩=some (.slice lo R.length lc)∧V.cell? ⟨rb,1,none⟩=some (.slice (some ⟨sb,0,none⟩) 9 9)∧V.cell? ⟨sb,4,none⟩=some (.int .i64 pg)∧True) (HS.out _ Br.drew) fun wd hwd hS=> ?_
 have HBd:=Lh (show Below w.heap.size w wd by rw[hwd];exact Br.drew);clear hwd c1 d1 d2;obtain⟨bl,hbl⟩:∃y,decide ((R.length:Int)>pg)=y:=⟨_,rfl⟩;have HBl:=Lh hbl;refine T 0 hS ?_;refine T 1 hS ?_;refine T 2 hS ?_;refine T 3 hS ?_;refine T 4 hS ?_;refine T 5 hS ?_;refine T 6 hS ?_;refine T 7 hS ?_;refine T 8 hS ?_;refine T 9 hS ?_;refine T 10 hS ?_;refine T 11 hS ?_;refine T 12 hS ?_;refine T 13 hS ?_;refine wpAnyH_done (by kernel_rfl) ?_ _;clear hS;cases bl with
 |true=>
  have HEnd:=Lh (HFin1.out wd (by have:=of_decide_eq_true HBl.out;omega) HBd.out);clear HFin1 HFin2;go_wp2
  first|exact HEnd.out|(go_ret;exact HEnd.out)
 |false=>
  have HLe:=Lh (show(R.length:Int)≤pg by have:=of_decide_eq_false HBl.out;omega);clear HFin1;go_wp2_with fail;refine(HNw.out wd HBd.out).mono ?_;rintro r w2 ⟨f,C,rfl,hen,hco,hfo,hb2⟩;have hx2:=HX.out.below (bQ HBd.out hb2);obtain⟨e0,e1,e2,_⟩:=hx2.at' 1 (by omega);have hS2:=(HS.out w2 (bQ HBd.out hb2)).2;have HX2:=Lh hx2;have HE2:=Lh (And.intro hen (And.intro hco hfo));have HB2:=Lh (bQ HBd.out hb2);have HFr:=Lh fun k (hk:f.foot C k)=>(show k≠sb from fun e=>by have h1:=hfo k hk;have h2:=HXl.out.2;have h3:=HBd.out.size;omega)
  clear hen hco hfo hb2 hx2 e0 e1 e2;obtain⟨fb,hfb⟩:∃y,f.eb=y:=⟨_,rfl⟩;have HFb:=Lh hfb;rw[hfb];clear hfb;go_wp2_with fail;refine B (fun V=>V.cell? ⟨rb,1,none⟩=some (.slice (some ⟨sb,0,none⟩) 9 9)∧V.cell? ⟨sb,4,none⟩=some (.int .i64 pg)∧True) hS2 fun we hwe hS=> ?_
  have HXe:=Lh (show Dx we rb sb kb D tv by rw[hwe];exact HX2.out.below Br.drew);have HBe:=Lh (show Below w2.heap.size w2 we by rw[hwe];exact Br.drew);clear hwe hS2;refine T 0 hS ?_;refine T 1 hS ?_;refine T 2 hS ?_;refine T 3 hS ?_;refine T 4 hS ?_;refine T 5 hS ?_;refine T 6 hS ?_;refine T 7 hS ?_;refine T 8 hS ?_;refine T 9 hS ?_;refine T 10 hS ?_;refine T 11 hS ?_;refine T 12 hS ?_;refine T 13 hS ?_;refine T 14 hS ?_;refine T 15 hS ?_;refine U 16 fun K' hK=> ?_
  obtain⟨e0,e1,e2,ef⟩:=HXe.out.at' 1 (by omega);have f0:=ef 3;have f1:=ef 4;have f2:=ef 5;clear ef;go_simp;have hset:Dx (((we.setCell ⟨sb,3,none⟩ (.bool true)).setCell ⟨sb,4,none⟩ (.int .i64 pg)).setCell ⟨sb,5,none⟩ (.pointer (some ⟨fb,0,none⟩))) rb sb kb (Ex.upd D 1 ⟨true,pg,some fb⟩) tv:=HXe.out.setOne ⟨true,pg,some fb⟩;have hm9:Mod (fun i=>i=sb) we (((we.setCell ⟨sb,3,none⟩ (.bool true)).setCell ⟨sb,4,none⟩ (.int .i64 pg)).setCell ⟨sb,5,none⟩ (.pointer (some ⟨fb,0,none⟩))):=Mod.setCell (F:=fun i=>i=sb) (Mod.setCell (F:=fun i=>i=sb) (Mod.setCell (F:=fun i=>i=sb) (Mod.refl _ _) ⟨sb,3,none⟩ (.inl rfl) _) ⟨sb,4,none⟩ (.inl rfl) _) ⟨sb,5,none⟩ (.inl rfl) _;clear e0 e1 e2 f0 f1 f2;generalize ((we.setCell ⟨sb,3,none⟩ (.bool true)).setCell ⟨sb,4,none⟩ (.int .i64 pg)).setCell ⟨sb,5,none⟩ (.pointer (some ⟨fb,0,none⟩))=w9 at*;obtain⟨_,d1,_,_⟩:=hset.at' 1 (by omega);have hS9:w9.cell? ⟨rb,1,none⟩=some (.slice (some ⟨sb,0,none⟩) 9 9)∧w9.cell? ⟨sb,4,none⟩=some (.int .i64 pg)∧True:=⟨hset.head.2.1,d1,trivial⟩;have HEnd:=Lh (HFin2.out w9 HLe.out ⟨f,C,by rw[HFb.out];exact hset,(HE2.out.1.below HBe.out).keep hm9 fun k hk e=>HFr.out k hk e,HE2.out.2.1,fun k hk=>Nat.le_trans HBd.out.size (HE2.out.2.2 k hk),(Mod.of_below (bQ HB2.out HBe.out) _).same hm9⟩);clear hset hm9 d1 hS;refine V hK hS9 ?_;clear hK K';refine wpAnyH_done (by kernel_rfl) ?_ _;clear hS9;go_wp2
  first|exact HEnd.out|(go_ret;exact HEnd.out)
end Dx
structure Px(w0 w:World)(xb:Nat)(S:Nat→Slt)(tv:Value)(a:KAt)(K:Kn)(rb sb:Nat)(D:Nat→Slt)(dv:Value)(b:RkAt)(L:Kn):Prop where
 x:Ex w xb a.kb S tv
 k:Knl w a K
 d:Dx w rb sb b.kb D dv
 l:Rkl w b L
 bel:Below w0.heap.size w0 w
 ap:∀k,a.tag k≠0→b.tag k=0
 a0:∀k,a.tag k≠0→w0.heap.size≤k
 b0:∀k,b.wf k→w0.heap.size≤k
 n1:a.tag xb=0∧a.tag rb=0∧a.tag sb=0
 n2:b.tag xb=0∧b.tag rb=0∧b.tag sb=0
 n3:xb≠rb∧xb≠sb
 z:w0.heap.size≤xb∧w0.heap.size≤rb∧w0.heap.size≤sb
namespace Px
variable {w0 w v w':World} {xb rb sb:Nat} {S S' D D':Nat→Slt} {tv dv:Value} {a a':KAt} {K K' L L':Kn} {b b':RkAt}
theorem below(h:Px w0 w xb S tv a K rb sb D dv b L)(hb:Below w.heap.size w w'):Px w0 w' xb S tv a K rb sb D dv b L:=
 { h with x:=h.x.below hb,k:=h.k.below hb,d:=h.d.below hb,l:=h.l.below hb,bel:=h.bel.trans (hb.mono h.bel.size) }
theorem prog(h:Px w0 w xb S tv a K rb sb D dv b L)(s:KStep w v a K a' K')(m:Mod (fun k=>k=xb) v w')(hx:Ex w' xb a'.kb S' tv)(hk:Knl w' a' K'):Px w0 w' xb S' tv a' K' rb sb D dv b L:=by
 have hm:Mod (fun k=>a.wf k∨k=xb) w w':=(s.mod.mono fun k _ q=>.inl q).trans m fun k _ q=>.inl (.inr q)
 have hd:=lQ h.d.blk;have hr:=lQ h.d.row;have hxl:=lQ h.x.blk;have ht:∀k,a'.tag k≠0→a.tag k≠0∨w.heap.size≤k:=fun k hk=>by
  rcases Nat.lt_or_ge k w.heap.size with q|q
  ·exact .inl (s.tag k q▸hk)
  ·exact .inr q
 refine { x:=hx,k:=hk,d:=h.d.mod hm (fun q=>q.elim (fun z=>z.1 h.n1.2.1) fun z=>h.n3.1 z.symm) (fun q=>q.elim (fun z=>z.1 h.n1.2.2) fun z=>h.n3.2 z.symm),l:=h.l.keep hm fun k hk q=>q.elim (fun z=>hk (h.ap k z.1)) fun z=>hk (z▸h.n2.1),bel:=Mod.below h.bel hm h.bel.size fun k _ q=>q.elim (fun z=>h.a0 k z.1) fun z=>z▸h.z.1,ap:=fun k hk=>(ht k hk).elim (h.ap k) fun q=>Decidable.byContradiction fun z=>by have:=h.l.lt k z;omega,a0:=fun k hk=>(ht k hk).elim (h.a0 k) fun q=>Nat.le_trans h.bel.size q,b0:=h.b0,n1:=⟨(s.tag _ hxl).trans h.n1.1,(s.tag _ hd).trans h.n1.2.1,(s.tag _ hr).trans h.n1.2.2⟩,n2:=h.n2,n3:=h.n3,z:=h.z }
theorem doc(h:Px w0 w xb S tv a K rb sb D dv b L)(s:RkStep w v b L b' L')(m:Mod (fun k=>k=sb) v w')(hd:Dx w' rb sb b'.kb D' dv)(hl:Rkl w' b' L'):Px w0 w' xb S tv a K rb sb D' dv b' L':=by
 have hm:Mod (fun k=>b.wf k∨k=sb) w w':=(s.mod.mono fun k _ q=>.inl q).trans m fun k _ q=>.inl (.inr q)
 have hdl:=lQ h.d.blk;have hr:=lQ h.d.row;have hxl:=lQ h.x.blk;have ht:∀k,b'.tag k≠0→b.tag k≠0∨w.heap.size≤k:=fun k hk=>by
  rcases Nat.lt_or_ge k w.heap.size with q|q
  ·exact .inl (s.tag k q▸hk)
  ·exact .inr q
 refine { x:=h.x.mod hm fun q=>q.elim (fun z=>z.1 h.n2.1) fun z=>h.n3.2 z,k:=h.k.keep hm fun k hk q=>q.elim (fun z=>z.1 (h.ap k hk)) fun z=>hk (z▸h.n1.2.2),d:=hd,l:=hl,bel:=Mod.below h.bel hm h.bel.size fun k _ q=>q.elim (h.b0 k) fun z=>z▸h.z.2.2,ap:=fun k hk=>Decidable.byContradiction fun z=>(ht k z).elim (fun q=>q (h.ap k hk)) fun q=>by have:=h.k.lt k hk;omega,a0:=h.a0,b0:=fun k hk=> ?_,n1:=h.n1,n2:=⟨(s.tag _ hxl).trans h.n2.1,(s.tag _ hdl).trans h.n2.2.1,(s.tag _ hr).trans h.n2.2.2⟩,n3:=h.n3,z:=h.z };rcases Nat.lt_or_ge k w.heap.size with q|q
 ·refine h.b0 k ?_;unfold RkAt.wf at hk⊢;rw[←s.tag k q];exact hk
 ·exact Nat.le_trans h.bel.size q
end Px
def stpA(dod env n:Int)(m:Mn)(ev pv:Value)(x:Cp.St)(t:ByteArray):Array Value:= #[.int .i64 dod,.int .i64 env,.int .i64 n,.int .u32 m.pages,ev,pv,.bool m.con,.slice x.ra x.rn x.rcap,.int .u32 x.pc,.slice x.pa x.pn x.pcap,.int .u16 x.at',.slice x.ca x.cn x.ccap,.int .u16 x.wh,.string x.text,.string t]
theorem stpA_cells{w:World}{b:Nat}{dod env n:Int}{m:Mn}{ev pv:Value}{x:Cp.St}{t:ByteArray}(h:w.heap[b]? =some (.cells (stpA dod env n m ev pv x t) 124 (0,0)))(i:Nat)(v:Value)(hv:(stpA dod env n m ev pv x t)[i]? =some v):w.cell? ⟨b,i,none⟩=some v:=by
 unfold World.cell?;rw[h];exact hv
namespace L23
def Does0(w0:World)(xb:Nat)(S:Nat→Slt)(tv:Value)(K:Kn)(rb sb:Nat)(D:Nat→Slt)(dv:Value)(m:Mn)(pg:Int)(kb kd:Nat)(r:Ending)(w':World):Prop:=
 r=.returned (.bool true)∧∃a b,Px w0 w' xb (Ex.upd S 1 ⟨true,pg,none⟩) tv a { K with g:=Gp.upd K.g 1 (some ⟨m,pg,0⟩) } rb sb (Ex.upd D 1 ⟨true,pg,none⟩) dv b { K with g:=Gp.upd K.g 1 (some ⟨m,pg,0⟩) }
theorem does0{w0 w:World}{xb rb sb:Nat}{S D:Nat→Slt}{tv dv:Value}{a:KAt}{K:Kn}{b:RkAt}(h:Px w0 w xb S tv a K rb sb D dv b K)(hp1:K.hp≤4096)(hl:K.hx.length≤16){m:Mn}{ev pv:Value}(hm:MnIn w ev pv m)(hok:m.ok)(hme:m.ext.length≤2000000∧m.ports.length≤2000000){pg:Int}(pg0:0≤pg)(pg1:pg≤4096)(hs:(S 1).is=false)(hd:(D 1).is=false)(hg:Ca.grantE K.hp K.hx K.g 1 m pg=0)(hmo:∀k,m.ext.length≠0∧ev.ownBlock=some k∨m.ports.length≠0∧pv.ownBlock=some k→a.tag k=0∧k≠xb)(env:Int)(x:Cp.St)(t:ByteArray):
  Calls Tryz.prog 53 #[.pointer (some ⟨xb,0,none⟩),.pointer (some ⟨rb,0,none⟩),.agg (stpA 0 env pg m ev pv x t)] w (Does0 w0 xb S tv K rb sb D dv m pg a.kb b.kb):=by
 obtain⟨eo,ec,rfl⟩:=hm.e.form;obtain⟨po,pc,rfl⟩:=hm.p.form;have HFin:=Lh fun V a' b' (g:Px w0 V xb (Ex.upd S 1 ⟨true,pg,none⟩) tv a' { K with g:=Gp.upd K.g 1 (some ⟨m,pg,0⟩) } rb sb (Ex.upd D 1 ⟨true,pg,none⟩) dv b' { K with g:=Gp.upd K.g 1 (some ⟨m,pg,0⟩) })=>(show Does0 w0 xb S tv K rb sb D dv m pg a.kb b.kb (.returned (.bool true)) V from⟨rfl,a',b',g⟩)
 generalize Does0 w0 xb S tv K rb sb D dv m pg a.kb b.kb=PQ at*;have hA:=(Below.refl w.heap.size w).alloc (Nat.le_refl _) (.cells (stpA 0 env pg m (.slice eo m.ext.length ec) (.slice po m.ports.length pc) x t) 124);have hn:=heap_alloc_new w (.cells (stpA 0 env pg m (.slice eo m.ext.length ec) (.slice po m.ports.length pc) x t) 124);obtain⟨w1,hw1⟩:∃y,w.alloc (.cells (stpA 0 env pg m (.slice eo m.ext.length ec) (.slice po m.ports.length pc) x t) 124)=y:=⟨_,rfl⟩;obtain⟨tb,htb⟩:∃y,w.heap.size=y:=⟨_,rfl⟩;rw[hw1] at hA hn;rw[htb] at hn;have h1:=h.below hA;have htg:a.tag tb=0∧b.tag tb=0:=⟨Decidable.byContradiction fun z=>by have:=h.k.lt _ z;omega,Decidable.byContradiction fun z=>by have:=h.l.lt _ z;omega⟩;have hxt:tb≠xb∧tb≠sb:=⟨fun e=>by have:=lQ h.x.blk;omega,fun e=>by have:=lQ h.d.row;omega⟩;have HP1:=Lh h1;have HTg:=Lh (And.intro htg hxt);have HN:=Lh hn;have HM:=Lh fun V (hV:Below w1.heap.size w1 V)=>hm.below (bQ hA hV)
 have HK:=Lh (And.intro hp1 (And.intro hl (And.intro hok (And.intro hme (And.intro pg0 pg1)))));have HSD:=Lh (And.intro hs (And.intro hd hg));have HMo:=Lh hmo;have HCl:Hid (∀V:World,V.heap[tb]? =some (.cells (stpA 0 env pg m (.slice eo m.ext.length ec) (.slice po m.ports.length pc) x t) 124 (0,0))→V.cell? ⟨tb,0,none⟩=some (.int .i64 0)∧V.cell? ⟨tb,2,none⟩=some (.int .i64 pg)∧V.cell? ⟨tb,3,none⟩=some (.int .u32 m.pages)∧V.cell? ⟨tb,4,none⟩=some (.slice eo m.ext.length ec)∧V.cell? ⟨tb,5,none⟩=some (.slice po m.ports.length pc)∧V.cell? ⟨tb,6,none⟩=some (.bool m.con)∧True):=Lh fun V hV=>⟨stpA_cells hV 0 _ rfl,stpA_cells hV 2 _ rfl,stpA_cells hV 3 _ rfl,stpA_cells hV 4 _ rfl,stpA_cells hV 5 _ rfl,stpA_cells hV 6 _ rfl,trivial⟩
 obtain⟨c0,c2,c3,c4,c5,c6,_⟩:=HCl.out w1 hn;clear h hm hok hme pg0 pg1 hs hd hg hmo hA hn h1 htg hxt hp1 hl;unfold stpA at hw1⊢;go_enter func53,ntmps53;go_upto_region 4 with(fail);clear hw1 htb;refine B (fun V=>V.cell? ⟨tb,2,none⟩=some (.int .i64 pg)∧V.cell? ⟨tb,3,none⟩=some (.int .u32 m.pages)∧V.cell? ⟨tb,4,none⟩=some (.slice eo m.ext.length ec)∧V.cell? ⟨tb,5,none⟩=some (.slice po m.ports.length pc)∧V.cell? ⟨tb,6,none⟩=some (.bool m.con)∧True) ⟨c2,c3,c4,c5,c6,trivial⟩ fun wd hwd hS=> ?_
 have HBd:=Lh (show Below w1.heap.size w1 wd by rw[hwd];exact Br.drew);clear hwd c0 c2 c3 c4 c5 c6;have HPd:=Lh (HP1.out.below HBd.out);have HNd:=Lh ((HBd.out.block _ (lQ HN.out)).trans HN.out);refine T 0 hS ?_;refine T 1 hS ?_;refine T 2 hS ?_;refine T 4 hS ?_;refine T 5 hS ?_;have hcp:=R11.copy (HM.out wd HBd.out) HK.out.2.2.2.1.1 HK.out.2.2.2.1.2;unfold Mn.cells at hcp;have HCp:=Lh hcp;clear hcp;refine U 3 fun K' hK=> ?_
 go_simp;go_at_call 93;refine HCp.out.mono ?_;rintro r v1 ⟨ev1,pv1,rfl,hm1,_,hb1⟩;have HP2:=Lh (HPd.out.below hb1);have HN2:=Lh ((hb1.block _ (lQ HNd.out)).trans HNd.out);have hS1:v1.cell? ⟨tb,2,none⟩=some (.int .i64 pg)∧v1.cell? ⟨tb,3,none⟩=some (.int .u32 m.pages)∧v1.cell? ⟨tb,4,none⟩=some (.slice eo m.ext.length ec)∧v1.cell? ⟨tb,5,none⟩=some (.slice po m.ports.length pc)∧v1.cell? ⟨tb,6,none⟩=some (.bool m.con)∧True:=(HCl.out v1 HN2.out).2;have had:=Ex.admitG HP2.out.x HP2.out.k HK.out.1 HK.out.2.1 hm1 HK.out.2.2.1 HK.out.2.2.2.2.1 HK.out.2.2.2.2.2 (n:=1) (by omega) (by omega) (fun i h1 h2=>by omega) HSD.out.1 HP2.out.n1.1;have HAd:=Lh had;have HB1:=Lh (bQ HBd.out hb1);clear hm1 hb1 had hS HCp HPd HNd;refine V hK hS1 ?_;clear hK K';refine U 6 fun K' hK=> ?_
 go_simp;go_at_call 45;refine HAd.out.mono ?_;rintro r v2 (⟨hg,_⟩|⟨hg,rfl,a2,v,hs2,hm2,hx2,hk2,_⟩)
 ·exact absurd HSD.out.2.2 hg
 ·have hp3:=HP2.out.prog hs2 hm2 hx2 hk2;have htl:=lQ HN2.out;have hn3:=(hm2.block _ (Nat.lt_of_lt_of_le htl hs2.mod.size) HTg.out.2.1).trans ((hs2.mod.block _ htl fun q=>q.1 HTg.out.1.1).trans HN2.out);have hS2:v2.cell? ⟨tb,2,none⟩=some (.int .i64 pg)∧v2.cell? ⟨tb,3,none⟩=some (.int .u32 m.pages)∧v2.cell? ⟨tb,4,none⟩=some (.slice eo m.ext.length ec)∧v2.cell? ⟨tb,5,none⟩=some (.slice po m.ports.length pc)∧v2.cell? ⟨tb,6,none⟩=some (.bool m.con)∧True:=(HCl.out v2 hn3).2;have hmm:Mod (fun k=>a.wf k∨k=xb) v1 v2:=(hs2.mod.mono fun k _ q=>.inl q).trans hm2 fun k _ q=>.inl (.inr q)
  have h0:=HM.out v1 HB1.out;have hmi:MnIn v2 (.slice eo m.ext.length ec) (.slice po m.ports.length pc) m:=⟨h0.e.mod hmm fun k hn hk q=>q.elim (fun z=>z.1 (HMo.out k (.inl ⟨hn,hk⟩)).1) (HMo.out k (.inl ⟨hn,hk⟩)).2,h0.p.mod hmm fun k hn hk q=>q.elim (fun z=>z.1 (HMo.out k (.inr ⟨hn,hk⟩)).1) (HMo.out k (.inr ⟨hn,hk⟩)).2⟩;have HP3:=Lh hp3;have HN3:=Lh hn3;have had:=Dx.admit hp3.d hp3.l HK.out.2.1 hmi HK.out.2.2.1 HK.out.2.2.2.2.1 HK.out.2.2.2.2.2 HSD.out.2.1 hp3.n2.2.1 hp3.n2.2.2;unfold Mn.cells at had;have HAd2:=Lh had;clear hs2 hm2 hx2 hk2 hp3 htl hn3 hmi hmm h0 had hg HAd HP2 HN2 hS1;refine V hK hS2 ?_;clear hK K';refine T 7 hS2 ?_;refine T 8 hS2 ?_;refine T 9 hS2 ?_;refine T 10 hS2 ?_;refine T 11 hS2 ?_;refine wpAnyH_done (by kernel_rfl) ?_ _;obtain⟨c2,c3,c4,c5,c6,_⟩:=hS2;go_wp2_with fail;refine HAd2.out.mono ?_;rintro r v3 (⟨hg,_⟩|⟨hg,rfl,b3,v',hs3,hm3,hd3,hl3,_⟩)
  ·exact absurd HSD.out.2.2 hg
  ·have HEnd:=Lh (HFin.out v3 a2 b3 (HP3.out.doc hs3 hm3 hd3 hl3));clear hs3 hm3 hd3 hl3 hg HAd2 HP3 HN3 c2 c3 c4 c5 c6 HFin;go_wp2
   first|exact HEnd.out|(go_ret;exact HEnd.out)
end L23
end Go.Proofs.YtnpicaigdfnmfaaGreat
