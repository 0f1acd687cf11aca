/- R22N, BlkG, May19G, Law22 in one text. -/
import Derived.Test.YtjjdjpdmgaipeaaGreatCwRnP
import Derived.Test.YtjjdjpdmgaipeaaGreatCwMade
import Derived.Test.YtjjdjpdmgaipeaaGreatCwGrantG
import Derived.Test.YtjjdjpdmgaipeaaGreatCwQuad
import Derived.Test.YtjjdjpdmgaipeaaGreatCwWi22B
import Derived.BigQuiet
import Derived.Test.YtjjdjpdmgaipeaaGreatCwZa
set_option linter.unusedVariables false
set_option linter.unusedSimpArgs false
set_option maxRecDepth 100000
set_option maxHeartbeats 16000000
open Go.Proofs.Tryz
namespace Go.Proofs.YtjjdjpdmgaipeaaGreat
open Go.RowKit
theorem Rkl.addRow{w w1 w2:World}{a:RkAt}{K:Kn}(h:Rkl w a K)(hb:Below w.heap.size w w1){v bv':Value}{l:List ByteArray}(hv:SlV w1 9 1 v l.length (l.map .string))(hvn:∀k,v.ownBlock=some k→w.heap.size≤k∧k<w1.heap.size)(h0:K.B.length=0→a.bv=.slice none 0 0)
  (ho:SlV w2 35 1 bv' (a.rows.length+1) (a.rows++[v])) (hm:Mod (fun k=>a.bv.ownBlock=some k) w1 w2) (hbv:bv'.ownBlock=a.bv.ownBlock∨∃k,bv'.ownBlock=some k∧w1.heap.size≤k) (hbl:∀k,bv'.ownBlock=some k→k<w2.heap.size) (hs:∀s,s∈l→s.size=64) (hl:l.length≤1024) (hB:K.B.length<16) (hx2:RwV (w2.setCell ⟨a.kb,2,none⟩ bv') 1 a.c.hv K.hx.length (K.hx.map (Value.int .u32))):
  ∃a',Rkl (w2.setCell ⟨a.kb,2,none⟩ bv') a' {K with B:=K.B++[l]}∧a'.kb=a.kb∧a'.bv=bv'∧a'.c=a.c∧a'.n=a.n∧∀k,a'.tag k≠0→a.tag k≠0∧a'.tag k=a.tag k∨w.heap.size≤k∧a'.tag k=5:=by
 have hz1:=hb.size;have hz2:=hm.size;have hzs:(w2.setCell ⟨a.kb,2,none⟩ bv').heap.size=w2.heap.size:=by simp[World.setCell]
 -- what the old outer slice's block may be
 have hty:∀k,a.bv.ownBlock=some k→∃cur,w1.heap[k]? =some (.cells cur 35 (0,0)):=fun k hk=>by
  rcases h.outer.2 with⟨e,_⟩|⟨g,off,cap,cur,e,hg,_⟩
  ·rw[h0 (by rw[←h.len];exact e)] at hk;cases hk
  ·rw[e] at hk;cases hk;exact⟨cur,(hb.block _ (lt_of_block hg)).trans hg⟩
 have hset:=(Mod.setCell (F:=fun i=>i=a.kb) (Mod.refl _ w2) ⟨a.kb,2,none⟩ (.inl rfl) bv');have hM:Mod (fun k=>k=a.kb∨a.bv.ownBlock=some k) w (w2.setCell ⟨a.kb,2,none⟩ bv'):=((Mod.of_below hb _).trans (hm.mono fun k _ g=>.inr g) fun i _ g=>.inl g).trans hset fun i _ g=>.inl (.inl g)
 have hkl:=lt_of_block h.head;have hbk:a.bv.ownBlock≠some a.kb:=fun e=>by have:=h.t5 _ (.inr (.inl e));rw[h.t1] at this;omega
 have hvk:v.ownBlock≠some a.kb:=fun e=>by have:=(hvn _ e).1;omega
 have hb'k:bv'.ownBlock≠some a.kb:=fun e=>by
  rcases hbv with g|⟨k,g,gk⟩
  ·exact hbk (g▸e)
  ·rw[g] at e;cases e;omega
 have hhead:=(hm.block _ (Nat.lt_of_lt_of_le hkl hz1) hbk).trans ((hb.block _ hkl).trans h.head);have keepS:∀ {ty:TypeId} {s n:Nat} {u:Value} {xs:List Value},SlV w1 ty s u n xs→35≠ty→(∀k,u.ownBlock=some k→k≠a.kb)→SlV (w2.setCell ⟨a.kb,2,none⟩ bv') ty s u n xs:=fun hu hne hk=>by
  refine SlV.mod ?_ hset fun k g e=>hk k g e
  refine⟨hu.1, ?_⟩;rcases hu.2 with g|⟨g,off,cap,cur,rfl,hgg,rest⟩
  ·exact .inl g
  ·refine .inr ⟨g,off,cap,cur,rfl,(hm.block _ (lt_of_block hgg) fun e=> ?_).trans hgg,rest⟩;obtain⟨cur',hc⟩:=hty g e;rw[hgg] at hc;cases hc;exact hne rfl
 have hnot:∀k,a.tag k≠1→a.tag k≠5→¬(k=a.kb∨a.bv.ownBlock=some k):=fun k h1 h5 g=>g.elim (fun e=>h1 (e▸h.t1)) fun e=>h5 (h.t5 k (.inr (.inl e)))
 have ne1:∀k,a.tag k≠1→k≠a.kb:=fun k h1 e=>h1 (e▸h.t1)
 have old:∀k,a.tag k≠0→KStep.grow w (w2.setCell ⟨a.kb,2,none⟩ bv') a.tag 5 k=a.tag k:=fun k hk=>KStep.grow_old (h.lt k hk)
 refine⟨{a with bv:=bv',rows:=a.rows++[v],tag:=KStep.grow w (w2.setCell ⟨a.kb,2,none⟩ bv') a.tag 5}, ?_,rfl,rfl,rfl,rfl,fun k hk=> ?_⟩
 ·exact {
      head:=heap_setCell_same w2 a.kb 2 _ _ bv' hhead
      hx:=hx2
      caps:=h.caps.mod hM fun k hk=>hnot k (by rw[h.t2 k hk];decide) (by rw[h.t2 k hk];decide)
      nic:=h.nic.mod hM fun k hk=>hnot k (by rw[h.t3 k hk];decide) (by rw[h.t3 k hk];decide)
      len:=by show(a.rows++[v]).length=(K.B++[l]).length;simp[h.len]
      outer:=by
       show SlV _ _ 1 bv' (a.rows++[v]).length (a.rows++[v])
       rw[List.length_append,List.length_singleton];exact ho.mod hset fun k hk e=>hb'k (e▸hk)
      inner:=fun i u m hu hml=>by
       have hu:(a.rows++[v])[i]? =some u:=hu;have hml:(K.B++[l])[i]? =some m:=hml;rcases Nat.lt_or_ge i a.rows.length with q|q
       ·rw[List.getElem?_append_left q] at hu;rw[List.getElem?_append_left (by rw[←h.len];exact q)] at hml;exact keepS ((h.inner i u m hu hml).below hb) (by decide) fun k hk=>ne1 k (by rw[h.t5 k (.inr (.inr ⟨u,List.mem_of_getElem? hu,hk⟩))];decide)
       ·rw[List.getElem?_append_right q] at hu;rw[List.getElem?_append_right (by rw[←h.len];exact q)] at hml;have e:i - a.rows.length=0:=by
         have:=(List.getElem?_eq_some_iff.1 hu).1;simp at this;omega
        rw[e] at hu;rw[←h.len,e] at hml;simp at hu hml;subst hu;subst hml;exact keepS hv (by decide) fun k hk e=>by have:=(hvn k hk).1;omega
      bl:=⟨by show(K.B++[l]).length≤16;simp;omega,fun i m hml=>by
       have hml:(K.B++[l])[i]? =some m:=hml;rcases Nat.lt_or_ge i K.B.length with q|q
       ·rw[List.getElem?_append_left q] at hml;exact h.bl.2 i m hml
       ·rw[List.getElem?_append_right q] at hml;have e:i - K.B.length=0:=by
         have:=(List.getElem?_eq_some_iff.1 hml).1;simp at this;omega
        rw[e] at hml;simp at hml;subst hml;exact hl⟩
      ok:=⟨h.ok.n0,h.ok.n1,fun i m hml s hsm=>by
       have hml:(K.B++[l])[i]? =some m:=hml;rcases Nat.lt_or_ge i K.B.length with q|q
       ·rw[List.getElem?_append_left q] at hml;exact h.ok.bs i m hml s hsm
       ·rw[List.getElem?_append_right q] at hml;have e:i - K.B.length=0:=by
         have:=(List.getElem?_eq_some_iff.1 hml).1;simp at this;omega
        rw[e] at hml;simp at hml;subst hml;exact hs s hsm,h.ok.q,h.ok.hl,h.ok.g0⟩
      t1:=(old _ (by rw[h.t1];decide)).trans h.t1
      t2:=fun k hk=>(old _ (by rw[h.t2 k hk];decide)).trans (h.t2 k hk)
      t3:=fun k hk=>(old _ (by rw[h.t3 k hk];decide)).trans (h.t3 k hk)
      t5:=fun k hk=>by
       have new:w.heap.size≤k→k<w2.heap.size→KStep.grow w (w2.setCell ⟨a.kb,2,none⟩ bv') a.tag 5 k=5:=fun q1 q2=>by unfold KStep.grow;rw[if_neg (by omega),if_pos (by omega)]
       have was:((K.hx.length≠0∧a.c.hv.ownBlock=some k)∨a.bv.ownBlock=some k∨∃u,u∈a.rows∧u.ownBlock=some k)→KStep.grow w (w2.setCell ⟨a.kb,2,none⟩ bv') a.tag 5 k=5:=fun g=>(old _ (by rw[h.t5 k g];decide)).trans (h.t5 k g)
       show KStep.grow w (w2.setCell ⟨a.kb,2,none⟩ bv') a.tag 5 k=5
       rcases hk with g|g|⟨u,hu,g⟩
       ·exact was (.inl g)
       ·have g:bv'.ownBlock=some k:=g;rcases hbv with q|⟨q,q1,q2⟩
        ·exact was (.inr (.inl (q▸g)))
        ·rw[q1] at g;cases g;exact new (by omega) (hbl _ q1)
       ·rcases List.mem_append.1 hu with q|q
        ·exact was (.inr (.inr ⟨u,q,g⟩))
        ·simp at q;subst q;have:=hvn k g;exact new this.1 (by omega)
      lt:=fun k hk=>by
       have hk:KStep.grow w (w2.setCell ⟨a.kb,2,none⟩ bv') a.tag 5 k≠0:=hk;unfold KStep.grow at hk
       split at hk
       ·omega
       ·split at hk
        ·assumption
        ·exact absurd rfl hk}
 ·have hk:KStep.grow w (w2.setCell ⟨a.kb,2,none⟩ bv') a.tag 5 k≠0:=hk;rcases Nat.lt_or_ge k w.heap.size with q|q
  ·rw[KStep.grow_old q] at hk;exact .inl ⟨hk,KStep.grow_old q⟩
  ·refine .inr ⟨q, ?_⟩
   show KStep.grow w (w2.setCell ⟨a.kb,2,none⟩ bv') a.tag 5 k=5
   unfold KStep.grow at hk⊢;rw[if_neg (by omega)] at hk⊢
   split at hk
   ·rename_i z;rw[if_pos z]
   ·exact absurd rfl hk
theorem Rkl.first{w:World}{cb nb kb:Nat}{hp:Int}{xs:List Int}{hv:Value}(hc:w.heap[cb]? =some (.cells #[.int .u32 hp,hv,.slice none 0 0] 261 (0,0)))(hn:w.heap[nb]? =some (.cells #[.slice none 0 0,.slice none 0 0,.int .i64 0] 206 (0,0)))(hkk:w.heap[kb]? =some (.cells #[.pointer (some ⟨cb,0,none⟩),.pointer (some ⟨nb,0,none⟩),.slice none 0 0,.int .u32 0] 125 (0,0)))
  (hx:RwV w 1 hv xs.length (xs.map (Value.int .u32))) (hh:Ca.hardOk hp xs=true) (p0:0≤hp) (hvb:∀k,xs.length≠0→hv.ownBlock=some k→k<w.heap.size∧k≠cb∧k≠nb∧k≠kb):
  ∃a,Rkl w a ⟨hp,xs,fun _=>none,Ni.newS,[],0⟩∧a.kb=kb∧a.c.hv=hv∧a.bv=.slice none 0 0∧∀k,a.tag k≠0→(k=cb∨k=nb∨k=kb)∨(xs.length≠0∧hv.ownBlock=some k)∧a.tag k=5:=by
 have n1:cb≠nb:=fun e=>by rw[e,hn] at hc;have:=cells_ty hc;exact absurd this (by decide)
 have n2:cb≠kb:=fun e=>by rw[e,hkk] at hc;have:=cells_ty hc;exact absurd this (by decide)
 have n3:nb≠kb:=fun e=>by rw[e,hkk] at hn;have:=cells_ty hn;exact absurd this (by decide)
 have hln:hp≤4096∧xs.length≤16:=by
  unfold Ca.hardOk at hh;simp only[Bool.and_eq_true,decide_eq_true_eq] at hh;exact hh.1
 obtain⟨T,hT⟩:∃T:Nat→Nat,T=fun k=>if k=kb then 1 else if k=cb then 2 else if k=nb then 3 else if xs.length≠0∧hv.ownBlock=some k then 5 else 0:=⟨_,rfl⟩
 have t1:T kb=1:=by rw[hT];exact if_pos rfl
 have t2:T cb=2:=by rw[hT];show(if cb=kb then 1 else _)=2;rw[if_neg n2,if_pos rfl]
 have t3:T nb=3:=by rw[hT];show(if nb=kb then 1 else _)=3;rw[if_neg n3,if_neg (fun e=>n1 e.symm),if_pos rfl]
 have t5:∀k,xs.length≠0∧hv.ownBlock=some k→T k=5:=fun k g=>by
  have:=hvb k g.1 g.2;rw[hT]
  show(if k=kb then 1 else _)=5
  rw[if_neg this.2.2.2,if_neg this.2.1,if_neg this.2.2.1,if_pos g]
 have t0:∀k,T k≠0→(k=cb∨k=nb∨k=kb)∨(xs.length≠0∧hv.ownBlock=some k)∧T k=5:=fun k hk=>by
  by_cases e1:k=kb
  ·exact .inl (.inr (.inr e1))
  by_cases e2:k=cb
  ·exact .inl (.inl e2)
  by_cases e3:k=nb
  ·exact .inl (.inr (.inl e3))
  by_cases e4:xs.length≠0∧hv.ownBlock=some k
  ·exact .inr ⟨e4,t5 k e4⟩
  ·rw[hT] at hk;have hk:(if k=kb then 1 else _)≠0:=hk;rw[if_neg e1,if_neg e2,if_neg e3,if_neg e4] at hk;exact absurd rfl hk
 refine⟨⟨kb,⟨cb,hv,.slice none 0 0,[]⟩,⟨nb,.slice none 0 0,.slice none 0 0,[]⟩,.slice none 0 0,[],T⟩, ?_,rfl,rfl,rfl,t0⟩;exact {
     head:=hkk
     hx:=hx
     caps:= {head:=hc,row:=SlV.nil _ _ _,mns:=fun x hx=>(by cases hx),can:=rfl,ok:=⟨fun n g hg=>(by cases hg),fun n hn=>(by cases hn),p0,fun n g hg=>(by cases hg),hln.1⟩}
     nic:= {head:=hn,row:=SlV.nil _ _ _,out:=SlV.nil _ _ _,q:=fun x=>rfl,pt:=fun y hy=>(by cases hy),q8:=fun x=>Nat.zero_le _,lr:=fun k hk=>(by cases hk),sr:=fun k hk=>(by cases hk)}
     len:=rfl
     outer:=SlV.nil _ _ _
     inner:=fun i v l hv=>by simp at hv
     bl:=⟨Nat.zero_le _,fun i l hl=>by simp at hl⟩
     ok:=⟨Int.le_refl 0,by show(0:Int)≤_;omega,fun i l hl=>by simp at hl,fun x s hs=>by simp[Ni.newS] at hs,by show xs.length≤_;omega,Int.le_refl 0⟩
     t1:=t1
     t2:=fun k hk=>by
      rcases hk with(g|g)|⟨x,hx,_⟩
      ·have g:k=cb:=g;subst g;exact t2
      ·cases g
      ·cases hx
     t3:=fun k hk=>by
      rcases hk with g|g|g
      ·have g:k=nb:=g;subst g;exact t3
      ·cases g
      ·cases g
     t5:=fun k hk=>by
      rcases hk with g|g|⟨x,hx,_⟩
      ·exact t5 k g
      ·cases g
      ·cases hx
     lt:=fun k hk=>by
      rcases t0 k hk with(g|g|g)|⟨g,_⟩
      ·rw[g];exact lt_of_block hc
      ·rw[g];exact lt_of_block hn
      ·rw[g];exact lt_of_block hkk
      ·exact(hvb k g.1 g.2).1}
namespace Rk
def NewP(w:World)(hp:Int)(xs:List Int)(hv:Value)(e:Ending)(w':World):Prop:=
 ∃b,e=.returned (.pointer (some ⟨b.kb,0,none⟩))∧Rkl w' b (Kn.new hp xs)∧b.c.hv=hv∧(∀k,b.tag k≠0→w.heap.size≤k∨b.tag k=5∧xs.length≠0∧hv.ownBlock=some k)∧Below w.heap.size w w'
def nwO(w:World)(hp:Int)(xs:List Int)(hv:Value)(kb:Nat)(vi:Value)(wr:World):Prop:=
 ∃(i:Nat) (b:RkAt),i≤xs.length∧vi=.int .i64 i∧Rkl wr b ⟨hp,xs,fun _=>none,Ni.newS,(xs.take i).map fun n=>List.replicate n.toNat z64,0⟩∧b.kb=kb∧b.c.hv=hv∧(i=0→b.bv=.slice none 0 0)∧(∀k,b.tag k≠0→w.heap.size<k∨k<w.heap.size∧b.tag k=5∧xs.length≠0∧hv.ownBlock=some k)∧(∀k,b.bv.ownBlock=some k→w.heap.size<k)∧Below w.heap.size w wr∧wr.heap[w.heap.size]? =some (.cells #[.int .u32 hp,hv] 25 (0,0))
def nwI(wo:World)(x:Nat)(vl vn:Value)(wr:World):Prop:=
 ∃n:Nat,n≤x∧vn=.int .u32 n∧SlV wr 9 1 vl n (List.replicate n (.string z64))∧(∀k,vl.ownBlock=some k→wo.heap.size≤k∧k<wr.heap.size)∧Below wo.heap.size wo wr
theorem new{w:World}{a:Option Addr}{cap:Nat}{hp:Int}{xs:List Int}(h:Rs.Words w a xs)(hb0:∀x,x∈xs→0≤x∧x≤4294967295)(p0:0≤hp)(hk:Ca.hardOk hp xs=true):
  Calls Tryz.prog 69 #[.agg #[.int .u32 hp,.slice a xs.length cap]] w (NewP w hp xs (.slice a xs.length cap)):=by
 have hln:xs.length≤16∧∀x,x∈xs→x≤1024:=by
  unfold Ca.hardOk at hk;simp only[Bool.and_eq_true,decide_eq_true_eq,List.all_eq_true] at hk;exact⟨hk.1.2,hk.2⟩
 have hmk:∀W:World,(Instr.makeSlice 30 (.int .i64 64) (.int .i64 64)).run Tryz.prog W=.ok (.slice (some ⟨W.heap.size,0,none⟩) 64 64) (W.alloc (.cells (List.replicate 64 (Value.int .u8 0)).toArray 5)):=fun W=>run_makeBytes 64 (by decide) W
 have hms:∀W:World,(convert 30 9 (.slice (some ⟨W.heap.size,0,none⟩) 64 64)).run Tryz.prog (W.alloc (.cells (List.replicate 64 (Value.int .u8 0)).toArray 5))=.ok (.string z64) (W.alloc (.cells (List.replicate 64 (Value.int .u8 0)).toArray 5)):=fun W=>made_str 64 W
 obtain⟨arr,harr⟩:∃arr,arr=(List.replicate 64 (Value.int .u8 0)).toArray:=⟨_,rfl⟩;rw[←harr] at hmk hms;have Hmk:=Lh hmk;have Hms:=Lh hms;clear harr hmk hms;obtain⟨hv,hhv⟩:∃hv,hv=Value.slice a xs.length cap:=⟨_,rfl⟩;have hrw:RwV w 1 (.slice a xs.length cap) xs.length (xs.map (Value.int .u32)):=⟨by simp,⟨a,cap,rfl,Ca.words_at h⟩,by unfold maxLen;omega⟩;have hob:∀k,xs.length≠0→(Value.slice a xs.length cap).ownBlock=some k→k<w.heap.size:=fun k hl hk=>by
  obtain⟨g,o,e,hc⟩:=h.cell 0 (by omega);rw[e] at hk;cases hk;unfold World.cell? at hc;cases hg:w.heap[g]? with
  |none=>rw[hg] at hc;cases hc
  |some _=>exact lt_of_block hg
 obtain⟨i0,hi0,hz0,hz1,hz2⟩:=Ni.infoStr';obtain⟨i1,hi1,hy0,hy1,hy2⟩:=info_parts info_strs;have HI:=Lh (And.intro hi0 (And.intro hz0 (And.intro hz1 hz2)));have HJ:=Lh (And.intro hi1 (And.intro hy0 (And.intro hy1 hy2)));have HFin:Hid (∀V b,Rkl V b (Kn.new hp xs)→b.c.hv=hv→(∀k,b.tag k≠0→w.heap.size≤k∨b.tag k=5∧xs.length≠0∧hv.ownBlock=some k)→Below w.heap.size w V→NewP w hp xs hv (.returned (.pointer (some ⟨b.kb,0,none⟩))) V):=Lh fun V b k1 k2 k3 k4=>⟨b,rfl,k1,k2,k3,k4⟩
 have hst:nwO w hp xs hv (w.heap.size+3) (.int .i64 0) ((((w.alloc (.cells #[.int .u32 hp,.slice a xs.length cap] 25)).alloc (.cells #[.int .u32 hp,.slice a xs.length cap,.slice none 0 0] 261)).alloc (.cells #[.slice none 0 0,.slice none 0 0,.int .i64 0] 206)).alloc (.cells #[.pointer (some ⟨w.heap.size+1,0,none⟩),.pointer (some ⟨w.heap.size+2,0,none⟩),.slice none 0 0,.int .u32 0] 125)):=by
  have g0:=heap_alloc_new w (.cells #[.int .u32 hp,.slice a xs.length cap] 25);have z0:(w.alloc (.cells #[.int .u32 hp,.slice a xs.length cap] 25)).heap.size=w.heap.size+1:=by simp
  have b0:Below w.heap.size w (w.alloc (.cells #[.int .u32 hp,.slice a xs.length cap] 25)):=(Below.refl _ _).alloc (Nat.le_refl _) _;generalize w.alloc (.cells #[.int .u32 hp,.slice a xs.length cap] 25)=w1 at*;have g1:=heap_alloc_new w1 (.cells #[.int .u32 hp,.slice a xs.length cap,.slice none 0 0] 261);have z1:(w1.alloc (.cells #[.int .u32 hp,.slice a xs.length cap,.slice none 0 0] 261)).heap.size=w.heap.size+2:=by simp[z0]
  have b1:Below w1.heap.size w1 (w1.alloc (.cells #[.int .u32 hp,.slice a xs.length cap,.slice none 0 0] 261)):=(Below.refl _ _).alloc (Nat.le_refl _) _;rw[z0] at g1;generalize w1.alloc (.cells #[.int .u32 hp,.slice a xs.length cap,.slice none 0 0] 261)=w2 at*;have g2:=heap_alloc_new w2 (.cells #[.slice none 0 0,.slice none 0 0,.int .i64 0] 206);have z2:(w2.alloc (.cells #[.slice none 0 0,.slice none 0 0,.int .i64 0] 206)).heap.size=w.heap.size+3:=by simp[z1]
  have b2:Below w2.heap.size w2 (w2.alloc (.cells #[.slice none 0 0,.slice none 0 0,.int .i64 0] 206)):=(Below.refl _ _).alloc (Nat.le_refl _) _;rw[z1] at g2;generalize w2.alloc (.cells #[.slice none 0 0,.slice none 0 0,.int .i64 0] 206)=w3 at*;have g3:=heap_alloc_new w3 (.cells #[.pointer (some ⟨w.heap.size+1,0,none⟩),.pointer (some ⟨w.heap.size+2,0,none⟩),.slice none 0 0,.int .u32 0] 125);have b3:Below w3.heap.size w3 (w3.alloc (.cells #[.pointer (some ⟨w.heap.size+1,0,none⟩),.pointer (some ⟨w.heap.size+2,0,none⟩),.slice none 0 0,.int .u32 0] 125)):=(Below.refl _ _).alloc (Nat.le_refl _) _;rw[z2] at g3;generalize w3.alloc (.cells #[.pointer (some ⟨w.heap.size+1,0,none⟩),.pointer (some ⟨w.heap.size+2,0,none⟩),.slice none 0 0,.int .u32 0] 125)=w4 at*;have h2:=(b3.block _ (lt_of_block g2)).trans g2;have b23:=below_th b2 b3;have h1:=(b23.block _ (lt_of_block g1)).trans g1;have b13:=below_th b1 b23;have h0:=(b13.block _ (lt_of_block g0)).trans g0;have b03:=below_th b0 b13;obtain⟨b,hb,q1,q2,q3,q4⟩:=Rkl.first h1 h2 g3 (hrw.below b03) hk p0 (fun k hn hk=>by have:=hob k hn hk;have:=b03.size;omega)
  refine⟨0,b,Nat.zero_le _,rfl,hb,q1,by rw[q2,hhv],fun _=>q3,fun k hk=> ?_,fun k hk=>(by rw[q3] at hk;cases hk),b03,by rw[hhv];exact h0⟩;rcases q4 k hk with g|g
  ·exact .inl (by omega)
  ·exact .inr ⟨hob k g.1.1 g.1.2,g.2,g.1.1,by rw[hhv];exact g.1.2⟩
 have HSt:=Lh hst;have HW:=Lh fun V (hV:Below w.heap.size w V)=>Ca.words_below h hV
 have HRw:=Lh fun V (hV:Below w.heap.size w V)=>hrw.below hV
 have HLn:=Lh hln;have HX0:=Lh hb0;have HHv:=Lh hhv;rw[←hhv];generalize NewP w hp xs hv=PQ at*;rw[hhv];clear hst h hrw hob hk hln hb0 hi0 hz0 hz1 hz2 hi1 hy0 hy1 hy2;go_enter func69,ntmps69;go_wp2;obtain⟨kb,hkb⟩:∃x,w.heap.size+3=x:=⟨_,rfl⟩;rw[hkb] at HSt⊢;clear hkb;go_loopw [4,5,6] (fun vi _ _ wr=>nwO w hp xs hv kb vi wr) (fun vi _ _ _=>xs.length - (intOf vi).toNat)
 case atStart=>exact HSt.out
 case round=>
  clear HSt;obtain⟨i,b,hi,rfl,hR,hkb,hhb,hb0,ht,hbn,hbw,hbox⟩:=hrel;obtain⟨c0,c1,_⟩:=two_of hbox;have HR:=Lh hR;have HT:=Lh ht;have HBw:=Lh hbw;have HBx:=Lh hbox;have HKb:=Lh hkb;have HHb:=Lh hhb;have HB0:=Lh hb0;have HBn:=Lh hbn;rw[HHv.out] at c1;clear hR ht hbw hbox hkb hhb hb0 hbn
  by_cases hin:i<xs.length
  ·have hx:xs[i]? =some xs[i]:=Zg hin;obtain⟨x,hxe⟩:∃x:Nat,xs[i]=(x:Int):=⟨xs[i].toNat,by have:=(HX0.out _ (List.getElem_mem hin)).1;omega⟩;have hx1:x≤1024:=by have:=HLn.out.2 _ (List.getElem_mem hin);omega
   rw[hxe] at hx;have HX:=Lh hx;have ii:(i:Int)<xs.length:=by omega
   clear hx c0;go_wp2;clear c1;generalize wr=wo at*;go_loopw [5,6] (fun vl vn w'=>nwI wo x vl vn w') (fun _ vn _=>x - (intOf vn).toNat)
   case atStart=>exact⟨0,Nat.zero_le _,rfl,SlV.nil _ _ _,fun k hk=>(by cases hk),Below.refl _ _⟩
   case round=>
    obtain⟨n,hn,rfl,hs,hown,hbi⟩:=hrel;have hbww:=below_th HBw.out hbi;obtain⟨c0,c1,_⟩:=two_of ((hbi.block _ (lt_of_block HBx.out)).trans HBx.out);rw[HHv.out] at c1;obtain⟨g,o,ea,hc⟩:=(HW.out wr hbww).cell i hin;rw[hxe] at hc;have HS:=Lh hs;have HOw:=Lh hown;have HBi:=Lh hbi;clear hs hown hbi hbww;subst ea
    by_cases hnx:n<x
    ·have nn:(n:Int)<x:=by omega
     have nw:IntKind.u32.wrap ((n:Int)+1)=n+1:=wrap32 (by omega) (by omega);obtain⟨lo,lc,rfl⟩:=HS.out.form;have hA1:Below wr.heap.size wr (wr.alloc (.cells arr 5)):=(Below.refl _ _).alloc (Nat.le_refl _) _;have hA2:Below wr.heap.size wr ((wr.alloc (.cells arr 5)).alloc (.cells #[.string z64] 9)):=hA1.alloc hA1.size _;have hz:((wr.alloc (.cells arr 5)).alloc (.cells #[.string z64] 9)).heap.size=wr.heap.size+2:=by simp
     have hnb:=heap_alloc_new (wr.alloc (.cells arr 5)) (.cells #[.string z64] 9);rw[show(wr.alloc (.cells arr 5)).heap.size=wr.heap.size+1 by simp] at hnb;have HNb:=Lh hnb;have HSA:=Lh (HS.out.below hA2);have HFI:Hid (∀v1 w2,SlV w2 9 1 v1 (n+1) (List.replicate n (.string z64)++[.string z64])→Mod (fun k=>(Value.slice lo n lc).ownBlock=some k) ((wr.alloc (.cells arr 5)).alloc (.cells #[.string z64] 9)) w2→(v1.ownBlock=(Value.slice lo n lc).ownBlock∨∃k,v1.ownBlock=some k∧((wr.alloc (.cells arr 5)).alloc (.cells #[.string z64] 9)).heap.size≤k)→nwI wo x v1 (.int .u32 ((n:Int)+1)) w2):=Lh fun v1 w2 q1 q2 q3=>by
      obtain⟨g,hg,hgl⟩:=q1.lt (by omega);have h2:=q2.size;have h3:=HBi.out.size;refine⟨n+1,hnx,by simp,by rw[List.replicate_succ'];exact q1,fun k hk=>⟨?_,by rw[hg] at hk;cases hk;exact hgl⟩,Mod.below (below_th HBi.out hA2) q2 (by omega) fun k _ hk=>(HOw.out k hk).1⟩;rcases q3 with e|⟨k',e,ek⟩
      ·exact(HOw.out k (e▸hk)).1
      ·rw[e] at hk;cases hk;omega
     have hmk:=Hmk.out;have hms:=Hms.out;clear hA1 hA2 hz hnb;go_wp2_with (at_builtin;refine wpList_append_slv _ (by rfl) _ _ _ (by rfl) 9 i0 (.string ByteArray.empty) 1 16 Tryz.underlying35 HI.out.1 HI.out.2.1 HI.out.2.2.1 HI.out.2.2.2 rfl (by omega) (.slice lo n lc) n (List.replicate n (.string z64)) (by rfl) HSA.out ⟨wr.heap.size+1,0,none⟩ 1 1 [.string z64] (by rfl) (by omega) (by rfl) (World.news_of_block (cs:= #[.string z64]) (t:=9) (fr:=(0,0)) HNb.out) (fun x hx=>by simp at hx;subst hx;rfl) (by unfold maxLen;omega) (by omega) ?_;intro v1 w2 q1 q2 q3;have R1:=Lh (HFI.out v1 w2 q1 q2 q3);obtain⟨o1,c1',e1⟩:=q1.form;subst e1;clear q1 q2 q3);exact⟨R1.out,by simp[intOf];omega⟩
    ·obtain rfl:n=x:=by omega
     have nn:¬(n:Int)<n:=by omega
     have hRo:=HR.out;obtain⟨bo,bc,hbv⟩:=hRo.outer.form;have hrl:b.rows.length=i:=by rw[hRo.len];simp;omega
     rw[hrl] at hbv;obtain⟨lo,lc,rfl⟩:=HS.out.form;have hAi:Below wo.heap.size wo (wr.alloc (.cells #[.slice lo n lc] 35)):=HBi.out.alloc HBi.out.size _;have hAr:Below wr.heap.size wr (wr.alloc (.cells #[.slice lo n lc] 35)):=(Below.refl _ _).alloc (Nat.le_refl _) _;have hou:=(hRo.below hAi).outer;rw[hbv,hrl] at hou;have HOu:=Lh hou;have HNb:=Lh (heap_alloc_new wr (.cells #[.slice lo n lc] 35));have hk2:wr.cell? ⟨kb,2,none⟩=some (.slice bo i bc):=by
      have:=(hRo.below HBi.out).cells.2.2.1;rw[HKb.out,hbv] at this;exact this
     have HK2:Hid (∀w5,Mod (fun k=>(Value.slice bo i bc).ownBlock=some k) (wr.alloc (.cells #[.slice lo n lc] 35)) w5→w5.cell? ⟨kb,2,none⟩=some (.slice bo i bc)∧w5.frozen? ⟨kb,2,none⟩=false):=Lh fun w5 q2=>by
      have hRa:=hRo.below hAi;have hd:=hRa.head;have hne:(Value.slice bo i bc).ownBlock≠some b.kb:=fun e=>by
       have:=hRo.t5 _ (.inr (.inl (by rw[hbv];exact e)));rw[hRo.t1] at this;omega
      have hd5:=(q2.block _ (lt_of_block hd) hne).trans hd;rw[HKb.out] at hd5;refine⟨?_, ?_⟩
      ·unfold World.cell?;rw[hd5,hbv];rfl
      ·unfold World.frozen?;rw[hd5];simp
     have HFO:Hid (∀v5 w5,SlV w5 35 1 v5 (i+1) (b.rows++[.slice lo n lc])→Mod (fun k=>(Value.slice bo i bc).ownBlock=some k) (wr.alloc (.cells #[.slice lo n lc] 35)) w5→(v5.ownBlock=(Value.slice bo i bc).ownBlock∨∃k,v5.ownBlock=some k∧(wr.alloc (.cells #[.slice lo n lc] 35)).heap.size≤k)→nwO w hp xs hv kb (.int .i64 ((i:Int)+1)) (w5.setCell ⟨kb,2,none⟩ v5)):=Lh fun v5 w5 q1 q2 q3=>by
      have hz1:=HBw.out.size;have hz2:=HBi.out.size;have hz3:=hAr.size;have hz4:=q2.size;have hkn:w.heap.size<kb:=by
       rcases HT.out b.kb (by rw[hRo.t1];decide) with g|⟨_,g,_⟩
       ·rw[HKb.out] at g;exact g
       ·rw[hRo.t1] at g;omega
      have hm6:Mod (fun k=>k=kb) w5 (w5.setCell ⟨kb,2,none⟩ v5):=Mod.setCell (F:=fun k=>k=kb) (Mod.refl _ _) ⟨kb,2,none⟩ (.inl rfl) _;have hb5:Below w.heap.size w w5:=Mod.below (below_th HBw.out hAi) q2 (by omega) fun k _ hk=>Nat.le_of_lt (HBn.out k (by rw[hbv];exact hk))
      have hb6:=Mod.below hb5 hm6 hb5.size fun k _ e=>by subst e;omega
      obtain⟨g,hg,hgl⟩:=q1.lt (by omega);obtain⟨a',k1,k2,k3,k4,k5,k6⟩:=Rkl.addRow (w:=wo) (v:=.slice lo n lc) (bv':=v5) (l:=List.replicate n z64) hRo hAi (by rw[List.length_replicate,List.map_replicate];exact HS.out.below hAr) (fun k hk=>⟨(HOw.out k hk).1,by have:=(HOw.out k hk).2;omega⟩) (fun e=>HB0.out (by first|(rw[List.length_map,List.length_take] at e;omega)|(have e:=congrArg List.length e;rw[List.length_map,List.length_take] at e;simp at e;omega))) (by rw[hrl];exact q1) (by rw[hbv];exact q2) (by rw[hbv];exact q3) (fun k hk=>by rw[hg] at hk;cases hk;exact hgl) (fun s hs=>by rw[List.eq_of_mem_replicate hs,z64_size]) (by rw[List.length_replicate];omega) (by have:=HLn.out.1;simp;omega) (by rw[HKb.out,HHb.out,HHv.out];exact HRw.out _ hb6);rw[HKb.out] at k1;refine⟨i+1,a',hin,by simp, ?_,k2.trans HKb.out,by rw[k4];exact HHb.out,fun e=>absurd e (Nat.succ_ne_zero _),fun k hk=> ?_,fun k hk=> ?_,hb6, ?_⟩
      ·have e:(xs.take (i+1)).map (fun n=>List.replicate n.toNat z64)=(xs.take i).map (fun n=>List.replicate n.toNat z64)++[List.replicate n z64]:=by
        rw[List.take_add_one,HX.out]
        simp
       rw[e];exact k1
      ·rcases k6 k hk with⟨g1,g2⟩|⟨g1,g2⟩
       ·rw[g2];exact HT.out k g1
       ·exact .inl (by have:=lt_of_block HBx.out;omega)
      ·rw[k3] at hk;rcases q3 with e|⟨k',e,ek⟩
       ·exact HBn.out k (by rw[hbv,←e];exact hk)
       ·rw[e] at hk;cases hk;have:=lt_of_block HBx.out;omega
      ·have h1:=(hAi.block _ (lt_of_block HBx.out)).trans HBx.out;have h2:=(q2.block _ (lt_of_block h1) (fun e=>by have:=HBn.out _ (by rw[hbv];exact e);omega)).trans h1;exact(hm6.block _ (lt_of_block h2) (by omega)).trans h2
     clear hAi hAr hou hRo hrl;have l16:=HLn.out.1;go_wp2_with (at_builtin;refine wpList_append_slv _ (by rfl) _ _ _ (by rfl) 35 i1 (.slice none 0 0) 1 24 Tryz.underlying123 HJ.out.1 HJ.out.2.1 HJ.out.2.2.1 HJ.out.2.2.2 rfl (by omega) (.slice bo i bc) i b.rows (by rfl) HOu.out ⟨wr.heap.size,0,none⟩ 1 1 [.slice lo n lc] (by rfl) (by omega) (by rfl) (World.news_of_block (cs:= #[.slice lo n lc]) (t:=35) (fr:=(0,0)) HNb.out) (fun x hx=>by simp at hx;subst hx;rfl) (by unfold maxLen;omega) (by omega) ?_;intro v5 w5 q1 q2 q3;have R1:=Lh (HFO.out v5 w5 q1 q2 q3);obtain⟨f1,f2⟩:=HK2.out w5 q2;obtain⟨o5,c5,e5⟩:=q1.form;subst e5;clear q1 q2 q3);exact⟨R1.out,by simp[intOf];omega⟩
  ·obtain rfl:i=xs.length:=by omega
   have nn:¬(xs.length:Int)<xs.length:=by omega
   have hRo:=HR.out;rw[List.take_length] at hRo;have HE:=HFin.out wr b hRo HHb.out (fun k hk=>(HT.out k hk).imp Nat.le_of_lt (·.2)) HBw.out;rw[HKb.out] at HE;have HE:=Lh HE;clear hRo;go_wp2
   first|exact HE.out|(go_ret;exact HE.out)
end Rk
namespace Bk
def upTo(s:ByteArray)(i:Nat):List Int:=(List.range 64).map fun j=>if j<i∧j<s.size then(nums s).getD j 0 else 0
def text(s:ByteArray):ByteArray:=strOfNums (upTo s 64)
theorem upTo_len(s:ByteArray)(i:Nat):(upTo s i).length=64:=by simp[upTo]
theorem text_size(s:ByteArray):(text s).size=64:=by unfold text;rw[strOfNums_size,upTo_len]
theorem upTo_zero(s:ByteArray):upTo s 0=List.replicate 64 0:=by
 apply List.ext_getElem?
 intro n;unfold upTo
 by_cases hn:n<64
 ·rw[List.getElem?_replicate,if_pos hn,List.getElem?_map,List.getElem?_range hn,Option.map_some,if_neg (by omega)]
 ·rw[List.getElem?_eq_none (by simp;omega),List.getElem?_eq_none (by simp;omega)]
theorem upTo_succ(s:ByteArray)(i:Nat)(hi:i<64)(hs:i<s.size):(upTo s i).set i ((nums s).getD i 0)=upTo s (i+1):=by
 apply List.ext_getElem?
 intro n;rw[List.getElem?_set];unfold upTo
 by_cases hn:n<64
 ·simp only[List.getElem?_map,List.getElem?_range hn,Option.map_some,List.length_map,List.length_range]
  by_cases e:i=n
  ·subst e;rw[if_pos rfl,if_pos hn,if_pos ⟨by omega,hs⟩]
  ·rw[if_neg e]
   congr 1
   by_cases g:n<i∧n<s.size
   ·rw[if_pos g,if_pos ⟨by omega,g.2⟩]
   ·rw[if_neg g,if_neg (by omega)]
 ·rw[if_neg (by omega),List.getElem?_eq_none (by simp;omega),List.getElem?_eq_none (by simp;omega)]
theorem upTo_end(s:ByteArray)(i:Nat)(h:64≤i∨s.size≤i):upTo s i=upTo s 64:=by
 unfold upTo
 apply List.map_congr_left
 intro j hj;have:j<64:=List.mem_range.1 hj
 by_cases g:j<s.size
 ·rw[if_pos ⟨by omega,g⟩,if_pos ⟨this,g⟩]
 ·rw[if_neg (fun q=>g q.2),if_neg (fun q=>g q.2)]
def cellsOf(l:List Int):Obj:=.cells (l.map (Value.int .u8)).toArray 5 (0,0)
def rel(w:World)(s:ByteArray)(vi:Value)(wr:World):Prop:=∃i:Nat,i≤64∧vi=.int .i64 i∧wr.heap[w.heap.size]? =some (cellsOf (upTo s i))∧Below w.heap.size w wr
theorem str_index(s:ByteArray)(k:Nat)(hk:k<s.size)(w:World):(Instr.index 9 (.string s) (.int .i64 k)).run Tryz.prog w=.ok (.int .u8 ((nums s).getD k 0)) w:=by
 rw[←nums_get s k hk];go_simp
theorem conv{W:World}{b:Nat}{l:List Int}(h:W.heap[b]? =some (cellsOf l))(hl:l.length=64):(convert 30 9 (.slice (some ⟨b,0,none⟩) 64 64)).run Tryz.prog W=.ok (.string (strOfNums l)) W:=by
 refine run_convert_bytes_arg (P:=Tryz.prog) _ 30 5 Tryz.underlying30 Tryz.underlying5 b 0 64 64 l hl (fun i hi=> ?_) 9 Tryz.underlying9;rw[Nat.zero_add];unfold World.cell?;rw[h];unfold cellsOf;simp[hl,hi]
theorem block(w:World)(s:ByteArray)(hs:s.size<140737488355328):Calls Tryz.prog 28 #[.string s] w fun e w'=>e=.returned (.string (text s))∧Below w.heap.size w w':=by
 have hmk:∀W:World,(Instr.makeSlice 30 (.int .i64 64) (.int .i64 64)).run Tryz.prog W=.ok (.slice (some ⟨W.heap.size,0,none⟩) 64 64) (W.alloc (.cells (List.replicate 64 (Value.int .u8 0)).toArray 5)):=fun W=>run_makeBytes 64 (by decide) W
 have HR0:Hid (rel w s (.int .i64 0) (w.alloc (.cells (List.replicate 64 (Value.int .u8 0)).toArray 5))):=Lh ⟨0,by omega,rfl,by
  rw[upTo_zero];unfold cellsOf;rw[List.map_replicate];exact heap_alloc_new w _,(Below.refl _ _).alloc (Nat.le_refl _) _⟩
 obtain⟨arr,harr⟩:∃arr,arr=(List.replicate 64 (Value.int .u8 0)).toArray:=⟨_,rfl⟩;rw[←harr] at hmk HR0;clear harr;clear hs;go_enter func28,ntmps28;go_wp2;clear hmk;go_loopw [4] (fun vi wr=>rel w s vi wr) (fun vi _=>64 - (intOf vi).toNat)
 case atStart=>exact HR0.out
 case round=>
  clear HR0;obtain⟨i,hi,rfl,hb,hbw⟩:=hrel;have HBk:=Lh hb;have HBw:=Lh hbw
  by_cases hin:i<64∧i<s.size
  ·obtain⟨h1,h2⟩:=hin;have hi1:(i:Int)<64:=by omega
   have hi2:(i:Int)<s.size:=by omega
   have hix:=fun W=>str_index s i h2 W
   obtain⟨y,hc⟩:∃y,wr.cell? ⟨w.heap.size,i,none⟩=some (.int .u8 y):=by
    have hl:i<(upTo s i).length:=by rw[upTo_len];exact h1
    refine⟨(upTo s i)[i], ?_⟩;unfold World.cell?;rw[hb];unfold cellsOf;simp[hl]
   have hf:wr.frozen? ⟨w.heap.size,i,none⟩=false:=by
    unfold World.frozen?;rw[hb];simp[cellsOf]
   obtain⟨x,hx⟩:∃x,(nums s).getD i 0=x:=⟨_,rfl⟩;have HX:=Lh hx;rw[hx] at hix;have HS7:Hid (rel w s (.int .i64 ((i:Int)+1)) (wr.setCell ⟨w.heap.size,i,none⟩ (.int .u8 x))):=Lh (by
    have hk:=heap_setCell_same wr w.heap.size i _ _ (.int .u8 x) hb;refine⟨i+1,h1,by simp, ?_,Mod.below hbw (Mod.setCell (F:=fun k=>k=w.heap.size) (Mod.refl _ _) ⟨w.heap.size,i,none⟩ (.inl rfl) (.int .u8 x)) hbw.size fun k _ hk=>Nat.le_of_eq hk.symm⟩;rw[←upTo_succ s i h1 h2,hx];unfold cellsOf at hk⊢;rw[hk,List.setIfInBounds_toArray,List.map_set])
   clear hb hbw hx;go_wp2;exact⟨HS7.out,by simp[intOf];omega⟩
  ·have he:upTo s i=upTo s 64:=upTo_end s i (by omega);rw[he] at hb;have hcv:=conv hb (upTo_len s 64);have HBt:=Lh hbw;have ht:strOfNums (upTo s 64)=text s:=rfl;rw[ht] at hcv;clear hb hbw he HBk ht
   by_cases h1:i<64
   ·have hi1:(i:Int)<64:=by omega
    have hi2:¬(i:Int)<s.size:=by omega
    clear hin;go_wp2
    first
     |exact⟨rfl,HBt.out⟩
     |(go_ret;exact⟨rfl,HBt.out⟩)
   ·have hi1:¬(i:Int)<64:=by omega
    clear hin;go_wp2
    first
     |exact⟨rfl,HBt.out⟩
     |(go_ret;exact⟨rfl,HBt.out⟩)
end Bk
namespace R19
theorem may{w:World}{a:Option Addr}{cap:Nat}{hp:Int}{xs:List Int}(h:Rs.Words w a xs)(hb0:∀x,x∈xs→0≤x∧x≤4294967295)(p0:0≤hp):
  Calls Tryz.prog 53 #[.agg #[.int .u32 hp,.slice a xs.length cap]] w fun e w'=>e=.returned (.bool (Ca.hardOk hp xs))∧Below w.heap.size w w':=by
 have hb:Below w.heap.size w (w.alloc (.cells #[.int .u32 hp,.slice a xs.length cap] 25)):=(Below.refl _ _).alloc (Nat.le_refl _) _;have hblk:=heap_alloc_new w (.cells #[.int .u32 hp,.slice a xs.length cap] 25);have hln:=h.len;have HW:=Lh fun V (hV:Below w.heap.size w V)=>Ca.words_below h hV
 have HRel0:Hid (Ca.ckRel (w.alloc (.cells #[.int .u32 hp,.slice a xs.length cap] 25)) xs (.int .i64 0) (w.alloc (.cells #[.int .u32 hp,.slice a xs.length cap] 25))):=Lh ⟨0,by omega,rfl,fun k x hk=>absurd hk (Nat.not_lt_zero _),Below.refl _ _⟩;have HX0:=Lh hb0;have HB:=Lh hb;have HBlk:=Lh hblk;obtain⟨c0,c1,cf⟩:=two_of hblk;clear hb hblk h hb0;generalize hw1:w.alloc (.cells #[.int .u32 hp,.slice a xs.length cap] 25)=w1 at*;go_enter func53,ntmps53;go_wp2;try rw[hw1]
 clear hw1 c0 c1 cf;go_loopw [3] (fun vi wr=>Ca.ckRel w1 xs vi wr) (fun vi _=>xs.length - (intOf vi).toNat)
 case atStart=>exact HRel0.out
 case round=>
  obtain⟨i,hi,rfl,hno,hbw⟩:=hrel;have HNo:=Lh hno;have HB1:=Lh (below_th HB.out hbw);have HBw:=Lh hbw;obtain⟨c0,c1,cf⟩:=two_of ((hbw.block _ (lt_of_block HBlk.out)).trans HBlk.out);clear hno hbw
  by_cases hin:i<xs.length
  ·obtain⟨g,off,rfl,hc⟩:=(HW.out wr HB1.out).cell i hin;have HX:Hid (xs[i]? =some xs[i]):=Lh (Zg hin);have hi1:(i:Int)<xs.length:=by omega
   generalize xs[i]=x at*
   by_cases hx:1024<x
   ·have HE:Hid (Ca.hardOk hp xs=false):=Lh (by
     have:xs.all (fun x=>decide (x≤1024))=false:=by
      rw[List.all_eq_false];exact⟨x,List.mem_of_getElem? HX.out,by simp;omega⟩
     unfold Ca.hardOk;rw[this,Bool.and_false])
    go_wp2
    first
     |exact⟨by rw[HE.out]<;>rfl,HB1.out⟩
     |(go_ret;exact⟨by rw[HE.out]<;>rfl,HB1.out⟩)
   ·go_wp2;refine⟨⟨i+1,by omega,by go_num,fun k y hk hy=> ?_,HBw.out⟩,by simp[intOf];omega⟩;rcases Nat.lt_or_ge k i with q|q
    ·exact HNo.out k y q hy
    ·obtain rfl:k=i:=by omega
     rw[HX.out] at hy;cases hy;omega
  ·have hi1:¬(i:Int)<xs.length:=by omega
   have HE:Hid (xs.all (fun x=>decide (x≤1024))=true):=Lh (by
    rw[List.all_eq_true];intro x hx;obtain⟨k,hk⟩:=List.getElem?_of_mem hx;exact decide_eq_true (HNo.out k x (by have:=(List.getElem?_eq_some_iff.1 hk).1;omega) hk))
   by_cases d1:hp≤4096
   ·by_cases d2:(xs.length:Int)≤16
    ·have HV:Hid (Ca.hardOk hp xs=true):=Lh (by unfold Ca.hardOk;rw[decide_eq_true d1,decide_eq_true (show xs.length≤16 by omega),HE.out];rfl);go_wp2
     first
      |exact⟨by rw[HV.out]<;>rfl,HB1.out⟩
      |(go_ret;exact⟨by rw[HV.out]<;>rfl,HB1.out⟩)
    ·have HV:Hid (Ca.hardOk hp xs=false):=Lh (by unfold Ca.hardOk;rw[decide_eq_false (show¬xs.length≤16 by omega)];simp);go_wp2
     first
      |exact⟨by rw[HV.out]<;>rfl,HB1.out⟩
      |(go_ret;exact⟨by rw[HV.out]<;>rfl,HB1.out⟩)
   ·have HV:Hid (Ca.hardOk hp xs=false):=Lh (by unfold Ca.hardOk;rw[decide_eq_false d1];rfl);go_wp2
    first
     |exact⟨by rw[HV.out]<;>rfl,HB1.out⟩
     |(go_ret;exact⟨by rw[HV.out]<;>rfl,HB1.out⟩)
end R19
namespace Rk
theorem grant{w:World}{b:RkAt}{K:Kn}(h:Rkl w b K)(hl:K.hx.length≤16){n pg:Int}(p0:0≤pg){m:Mn}{ev pv:Value}(hm:MnIn w ev pv m)(hok:m.ok):
  Calls Tryz.prog 73 #[.pointer (some ⟨b.c.rb,0,none⟩),.int .i64 n,.agg (m.cells ev pv),.int .u32 pg] w fun e w'=>
   (Ca.grantE K.hp K.hx K.g n m pg≠0∧e=.returned (.int .i64 (Ca.grantE K.hp K.hx K.g n m pg))∧Below w.heap.size w w')∨
   (Ca.grantE K.hp K.hx K.g n m pg=0∧e=.returned (.int .i64 0)∧∃b',RkStep w w' b K b' {K with g:=Gp.upd K.g n (some ⟨m,pg,0⟩)}):=by
 refine(Rc.grant h.caps h.hx hl p0 hm hok).mono ?_;rintro e w' (g|⟨g1,g2,c,g3,g4,g5,g6,g7,g8⟩)
 ·exact .inl g
 ·refine .inr ⟨g1,g2,_,RkStep.setCaps h g3 g4 g5 (fun k hk=> ?_) (g8.mono fun k _ e=>.inl (.inl e))⟩;rcases hk with(z|z)|z
  ·exact .inl (.inl (.inl (by rw[z,g4])))
  ·exact .inr (g7 k z)
  ·exact(g6 k z).imp .inr id
end Rk
namespace L22
open In
structure Light(d:WdI)(l:List ClI):Prop where
 e:d.h.l.length≤20
 me:d.m.m.ext.length≤40
 mp:d.m.m.ports.length≤40
 x:Cp.heavyV d.x=false
 bl:d.bl.length≤60
 ll:l.length≤100
 f:∀i (h:i<l.length),l[i].fr.size≤300
structure WBox(w:World)(b:Nat)(d:WdI):Prop where
 blk:w.heap[b]? =some (.cells d.cells 37 (0,0))
theorem WBox.below{w w':World}{b:Nat}{d:WdI}(h:WBox w b d)(hb:Below w.heap.size w w'):WBox w' b d:=⟨(hb.block _ (lt_of_block h.blk)).trans h.blk⟩
theorem WBox.cell{w:World}{b:Nat}{d:WdI}(h:WBox w b d)(i:Nat)(v:Value)(hi:d.cells[i]? =some v):w.cell? ⟨b,i,none⟩=some v:=by
 unfold World.cell?;rw[h.blk];exact hi
theorem large(w:World)(x:MnI):Calls Tryz.prog 64 #[.agg #[.int .u32 x.m.pages,.slice x.ea x.m.ext.length x.ecap,.slice x.pa x.m.ports.length x.pcap,.bool x.m.con]] w fun e w'=>e=.returned (.bool (decide (40<x.m.ext.length)||decide (40<x.m.ports.length)))∧Below w.heap.size w w':=by
 have HB:=Lh ((Below.refl w.heap.size w).alloc (Nat.le_refl _) (.cells #[.int .u32 x.m.pages,.slice x.ea x.m.ext.length x.ecap,.slice x.pa x.m.ports.length x.pcap,.bool x.m.con] 29));generalize x.m.ext.length=na at*;generalize x.m.ports.length=nb at*
 by_cases h1:40<na
 ·have e1:((40:Int)<na):=by omega
  go_enter func64,ntmps64;go_wp2;go_ret;exact⟨by simp[h1],HB.out⟩
 ·have e1:¬((40:Int)<na):=by omega
  by_cases h2:40<nb
  ·have e2:((40:Int)<nb):=by omega
   go_enter func64,ntmps64;go_wp2;go_ret;exact⟨by simp[h2],HB.out⟩
  ·have e2:¬((40:Int)<nb):=by omega
   go_enter func64,ntmps64;go_wp2;go_ret;exact⟨by simp[h1,h2],HB.out⟩
def h1Rel(w1:World)(n:Nat)(vn vi:Value)(wr:World):Prop:=∃(i:Nat) (s:Int),i≤n∧i≤40∧vi=.int .i64 i∧vn=.int .u32 s∧0≤s∧s≤1000*i∧wr=w1
def h2Rel(w1:World)(l:List ClI)(vi:Value)(wr:World):Prop:=∃i:Nat,i≤l.length∧i≤200∧vi=.int .i64 i∧(∀k (h:k<l.length),k<i→l[k].fr.size≤300)∧wr=w1
theorem heavy(w:World)(d:WdI)(hd:d.pre w)(la:Option Addr)(lcap:Nat)(l:List ClI)(hl:Cls w la l):
  Calls Tryz.prog 8 #[.agg d.cells,.slice la l.length lcap] w fun e w'=>∃b,e=.returned (.bool b)∧(b=false→Light d l)∧Below w.heap.size w w':=by
 have hb:Below w.heap.size w (w.alloc (.cells d.cells 37)):=(Below.refl _ _).alloc (Nat.le_refl _) _;have hbx:WBox (w.alloc (.cells d.cells 37)) w.heap.size d:=⟨heap_alloc_new w _⟩;have HBx:=Lh hbx;have HB:=Lh hb;have HL:=Lh (hl.below hb);have HW:=Lh (Ca.words_below hd.h.w hb);have HBd:=Lh hd.h.bd;have HPost:Hid (∀b w',(b=false→Light d l)→Below w.heap.size w w'→∃b',Ending.returned (.bool b)=.returned (.bool b')∧(b'=false→Light d l)∧Below w.heap.size w w'):=Lh fun b w' h1 h2=>⟨b,rfl,h1,h2⟩
 have HLg:=Lh fun V=>large V d.m
 have HHv:=Lh fun V=>Cp.heavy06 V d.x
 have HLt:Hid (d.h.l.length≤20→d.m.m.ext.length≤40→d.m.m.ports.length≤40→Cp.heavyV d.x=false→d.bl.length≤60→l.length≤100→(∀i (h:i<l.length),l[i].fr.size≤300)→Light d l):=Lh fun a b c d' e f g=>⟨a,b,c,d',e,f,g⟩
 generalize hP:(fun(e:Ending) (w':World)=>∃b,e=.returned (.bool b)∧(b=false→Light d l)∧Below w.heap.size w w')=PQ at*;have HP:Hid (∀b w',(b=false→Light d l)→Below w.heap.size w w'→PQ (.returned (.bool b)) w'):=Lh fun b w' h1 h2=>by rw[←hP];exact⟨b,rfl,h1,h2⟩
 clear hP HPost hb hl hd;have c1:=hbx.cell 1 _ rfl;have c2:=hbx.cell 2 _ rfl;have c3:=hbx.cell 3 _ rfl;have c4:=hbx.cell 4 _ rfl;have c5:=hbx.cell 5 _ rfl;have c6:=hbx.cell 6 _ rfl;have c7:=hbx.cell 7 _ rfl;have c8:=hbx.cell 8 _ rfl;have c9:=hbx.cell 9 _ rfl;have c10:=hbx.cell 10 _ rfl;have c11:=hbx.cell 11 _ rfl;have c12:=hbx.cell 12 _ rfl;have c13:=hbx.cell 13 _ rfl;unfold HdI.v at c1;unfold MnI.ev at c3;unfold MnI.pv at c4;unfold Cp.St.cells at HHv;clear hbx;obtain⟨w1,hw1⟩:∃w1,w.alloc (.cells d.cells 37)=w1:=⟨_,rfl⟩;unfold WdI.cells HdI.v MnI.ev MnI.pv at*;rw[hw1] at HBx HB HL HW c1 c2 c3 c4 c5 c6 c7 c8 c9 c10 c11 c12 c13;go_enter func8,ntmps8;go_wp2;try rw[hw1]
 clear hw1;obtain⟨bx,hbxe⟩:∃bx,w.heap.size=bx:=⟨_,rfl⟩;rw[hbxe] at c1 c2 c3 c4 c5 c6 c7 c8 c9 c10 c11 c12 c13⊢;go_loopw [5,6] (fun vn vi wr=>h1Rel w1 d.h.l.length vn vi wr) (fun _ vi _=>40 - (intOf vi).toNat)
 case atStart=>exact⟨0,0,Nat.zero_le _,Nat.zero_le _,rfl,rfl,Int.le_refl 0,by omega,rfl⟩
 case round=>
  obtain⟨i,s,hi,hi40,rfl,rfl,s0,s1,rfl⟩:=hrel;generalize wr=wr0 at*
  by_cases hin:i<d.h.l.length
  ·have ii:(i:Int)<d.h.l.length:=by omega
   by_cases hi4:i<40
   ·have i4:(i:Int)<40:=by omega
    obtain⟨g,o,ea,hc⟩:=HW.out.cell i hin;have hbd:=HBd.out _ (List.getElem_mem hin);generalize d.h.l[i]=x at*;rw[ea] at c1
    by_cases hx:(1000:Int)<x
    ·have hw:IntKind.u32.wrap (s+1000)=s+1000:=wrap32 (by omega) (by omega);go_wp2;exact⟨⟨i+1,s+1000,by omega,by omega,by go_num,rfl,by omega,by omega,rfl⟩,by simp[intOf];omega⟩
    ·have hw:IntKind.u32.wrap (s+x)=s+x:=wrap32 (by omega) (by omega);go_wp2;exact⟨⟨i+1,s+x,by omega,by omega,by go_num,rfl,by omega,by omega,rfl⟩,by simp[intOf];omega⟩
   ·have i4:¬(i:Int)<40:=by omega
    go_wp2;go_loopw [7] (fun vi wr=>h2Rel wr0 l vi wr) (fun vi _=>200 - (intOf vi).toNat)
    case atStart=>exact⟨0,Nat.zero_le _,Nat.zero_le _,rfl,fun k h hk=>absurd hk (Nat.not_lt_zero _),rfl⟩
    case round=>
     obtain⟨j,hj,hj2,rfl,hf,rfl⟩:=hrel;generalize wr=wr0 at*;have HF:=Lh hf;clear hf
     by_cases jn:j<l.length
     ·have jn':(j:Int)<l.length:=by omega
      by_cases j2:j<200
      ·have j2':(j:Int)<200:=by omega
       obtain⟨g,o,ea,hc⟩:=HL.out.cell j jn;have hsz:=(HL.out.ok j jn).f;have HZ:Hid (∀z,l[j].fr=z→True):=Lh fun _ _=>trivial
       obtain⟨t,ht⟩:∃t,l[j].fr=t:=⟨_,rfl⟩;have HT:=Lh ht;have hc6:wr0.cell? ⟨g,o+j*7+6,none⟩=some (.string l[j].fr):=hc 6 (by omega);rw[ht] at hc6 hsz;clear ht hc;subst ea
       by_cases q:300<t.size
       ·have q':(300:Int)<t.size:=by omega
        have HBn:=Lh HB.out;go_wp2
        first|exact HP.out true _ (fun g=>(nomatch g)) HBn.out|(go_ret;exact HP.out true _ (fun g=>(nomatch g)) HBn.out)
       ·have q':¬(300:Int)<t.size:=by omega
        have Hq:Hid (t.size≤300):=Lh (by omega);clear q;go_wp2;refine⟨⟨j+1,by omega,by omega,by go_num,fun k h hk=> ?_,rfl⟩,by simp[intOf];omega⟩;rcases Nat.lt_or_ge k j with z|z
        ·exact HF.out k h z
        ·obtain rfl:k=j:=by omega
         rw[HT.out];exact Hq.out
      ·have j2':¬(j:Int)<200:=by omega
       have HTrue:=Lh trivial
       by_cases q1:20<d.h.l.length
       ·have q1':(20:Int)<d.h.l.length:=by omega
        have HBn:=Lh HB.out;go_wp2
        first|exact HP.out true _ (fun g=>(nomatch g)) HBn.out|(go_ret;exact HP.out true _ (fun g=>(nomatch g)) HBn.out)
       exact absurd hin (by omega)
     ·have jn':¬(j:Int)<l.length:=by omega
      by_cases q1:20<d.h.l.length
      ·have q1':(20:Int)<d.h.l.length:=by omega
       have HBn:=Lh HB.out;go_wp2
       first|exact HP.out true _ (fun g=>(nomatch g)) HBn.out|(go_ret;exact HP.out true _ (fun g=>(nomatch g)) HBn.out)
      exact absurd hin (by omega)
  ·have ii:¬(i:Int)<d.h.l.length:=by omega
   go_wp2;go_loopw [7] (fun vi wr=>h2Rel wr0 l vi wr) (fun vi _=>200 - (intOf vi).toNat)
   case atStart=>exact⟨0,Nat.zero_le _,Nat.zero_le _,rfl,fun k h hk=>absurd hk (Nat.not_lt_zero _),rfl⟩
   case round=>
    obtain⟨j,hj,hj2,rfl,hf,rfl⟩:=hrel;generalize wr=wr0 at*;have HF:=Lh hf;clear hf;rcases(by omega:(j<l.length∧j<200)∨(j<l.length∧¬j<200)∨¬j<l.length) with⟨jn,j2⟩|⟨jn,j2⟩|jn
    ·have jn':(j:Int)<l.length:=by omega
     have j2':(j:Int)<200:=by omega
     obtain⟨g,o,ea,hc⟩:=HL.out.cell j jn;have hsz:=(HL.out.ok j jn).f;have HZ:Hid (∀z,l[j].fr=z→True):=Lh fun _ _=>trivial
     obtain⟨t,ht⟩:∃t,l[j].fr=t:=⟨_,rfl⟩;have HT:=Lh ht;have hc6:wr0.cell? ⟨g,o+j*7+6,none⟩=some (.string l[j].fr):=hc 6 (by omega);rw[ht] at hc6 hsz;clear ht hc;subst ea
     by_cases q:300<t.size
     ·have q':(300:Int)<t.size:=by omega
      have HBn:=Lh HB.out;go_wp2
      first|exact HP.out true _ (fun g=>(nomatch g)) HBn.out|(go_ret;exact HP.out true _ (fun g=>(nomatch g)) HBn.out)
     ·have q':¬(300:Int)<t.size:=by omega
      have Hq:Hid (t.size≤300):=Lh (by omega);clear q;go_wp2;refine⟨⟨j+1,by omega,by omega,by go_num,fun k h hk=> ?_,rfl⟩,by simp[intOf];omega⟩;rcases Nat.lt_or_ge k j with z|z
      ·exact HF.out k h z
      ·obtain rfl:k=j:=by omega
       rw[HT.out];exact Hq.out
    have jn':(j:Int)<l.length:=by omega
    have j2':¬(j:Int)<200:=by omega
    rotate_left
    have jn':¬(j:Int)<l.length:=by omega
    all_goals
     by_cases q1:20<d.h.l.length
     ·have q1':(20:Int)<d.h.l.length:=by omega
      have HBn:=Lh HB.out;go_wp2
      first|exact HP.out true _ (fun g=>(nomatch g)) HBn.out|(go_ret;exact HP.out true _ (fun g=>(nomatch g)) HBn.out)
     have q1':¬(20:Int)<d.h.l.length:=by omega
     have Q1:Hid (d.h.l.length≤20):=Lh (by omega)
     by_cases q2:60<s
     ·have HBn:=Lh HB.out;go_wp2
      first|exact HP.out true _ (fun g=>(nomatch g)) HBn.out|(go_ret;exact HP.out true _ (fun g=>(nomatch g)) HBn.out)
     go_wp2_with fail;refine(HLg.out _).mono ?_;rintro e w2 ⟨rfl,hb2⟩;have HB2:=Lh (below_th HB.out hb2);have e1:=cell_below hb2 c6;have e2:=cell_below hb2 c7;have e3:=cell_below hb2 c8;have e4:=cell_below hb2 c9;have e5:=cell_below hb2 c10;have e6:=cell_below hb2 c11;have e7:=cell_below hb2 c12;have e8:=cell_below hb2 c13;clear hb2 c1 c2 c3 c4 c5 c6 c7 c8 c9 c10 c11 c12 c13;obtain⟨bL,hbL⟩:∃bL,(decide (40<d.m.m.ext.length)||decide (40<d.m.m.ports.length))=bL:=⟨_,rfl⟩;rw[hbL];have HbL:=Lh hbL;clear hbL;cases bL with
     |true=>
      have HBn:=Lh HB2.out;go_wp2
      first|exact HP.out true _ (fun g=>(nomatch g)) HBn.out|(go_ret;exact HP.out true _ (fun g=>(nomatch g)) HBn.out)
     |false=>
      go_wp2_with fail;refine(HHv.out _).mono ?_;rintro e w3 ⟨rfl,hb3⟩;have HB3:=Lh (below_th HB2.out hb3);have f8:=cell_below hb3 e8;clear hb3 e1 e2 e3 e4 e5 e6 e7 e8;obtain⟨bH,hbH⟩:∃bH,Cp.heavyV d.x=bH:=⟨_,rfl⟩;rw[hbH];have HbH:=Lh hbH;clear hbH;have HBn:=Lh HB3.out;cases bH with
      |true=>
       go_wp2
       first|exact HP.out true _ (fun g=>(nomatch g)) HBn.out|(go_ret;exact HP.out true _ (fun g=>(nomatch g)) HBn.out)
      |false=>
       by_cases q3:60<d.bl.length
       ·have q3':(60:Int)<d.bl.length:=by omega
        go_wp2
        first|exact HP.out true _ (fun g=>(nomatch g)) HBn.out|(go_ret;exact HP.out true _ (fun g=>(nomatch g)) HBn.out)
       have q3':¬(60:Int)<d.bl.length:=by omega
       have Q3:Hid (d.bl.length≤60):=Lh (by omega)
       by_cases q4:100<l.length
       ·have q4':(100:Int)<l.length:=by omega
        go_wp2
        first|exact HP.out true _ (fun g=>(nomatch g)) HBn.out|(go_ret;exact HP.out true _ (fun g=>(nomatch g)) HBn.out)
       try exact absurd jn (by omega)
       all_goals
        have q4':¬(100:Int)<l.length:=by omega
        have HLi:=Lh (HLt.out Q1.out (by have:=HbL.out;simp at this;omega) (by have:=HbL.out;simp at this;omega) HbH.out Q3.out (by omega) (fun k h=>HF.out k h (by omega)));clear q1 q3 q4;go_wp2
        first|exact HP.out _ _ (fun _=>HLi.out) HBn.out|(go_ret;exact HP.out _ _ (fun _=>HLi.out) HBn.out)
end L22
end Go.Proofs.YtjjdjpdmgaipeaaGreat
