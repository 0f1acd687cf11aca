/- RnP, R20, R20C, R22, R22B, Duo, WordBytes in one text. -/
import Derived.Test.YtjjdjpdmgaipeaaGreatCwNicD
import Derived.Test.YtjjdjpdmgaipeaaGreatCwR19D
import Derived.Test.YtjjdjpdmgaipeaaGreatCwR19F
import Derived.Test.YtjjdjpdmgaipeaaGreatCwRegU
import Derived.Test.YtjjdjpdmgaipeaaGreatCwTskG
import Derived.Test.YtjjdjpdmgaipeaaGreatCwCpuW
import Derived.Test.YtjjdjpdmgaipeaaGreatCwSl21
import Derived.Test.YtjjdjpdmgaipeaaGreatProg
import Derived.LoopTactic
import Derived.Deep.RegionLaw
import Derived.Deep.AppendLies
import Derived.WalkSpells
import Derived.WalkLawsBesides
import Derived.OwnWalk
import Derived.Outline
import Derived.Test.YtjjdjpdmgaipeaaGreatCwZa
set_option linter.unusedVariables false
set_option linter.unusedSimpArgs false
set_option maxRecDepth 100000
set_option maxHeartbeats 16000000
open Go.Proofs.Tryz
namespace Go.Proofs.YtjjdjpdmgaipeaaGreat
open Go.RowKit
namespace Rn
def wt(x:Int×ByteArray):List Value:=[.int .u16 x.1,.string x.2]
def wtC(L:List (Int×ByteArray)):List Value:=L.flatMap wt
def qOf(L:List (Int×ByteArray))(p:Int):List ByteArray:=(L.filter fun y=>y.1 == p).map (·.2)
theorem wtC_at:∀(L:List (Int×ByteArray)) (i:Nat) (x:Int×ByteArray),L[i]? =some x→(wtC L)[i*2]? =some (.int .u16 x.1)∧(wtC L)[i*2+1]? =some (.string x.2)
 |y::l,0,x,h=>by
  simp at h;subst h;exact⟨rfl,rfl⟩
 |y::l,i+1,x,h=>by
  have:=wtC_at l i x (by simpa using h);have e:wtC (y::l)=wt y++wtC l:=rfl;rw[e,List.getElem?_append_right (by simp[wt];omega),List.getElem?_append_right (by simp[wt];omega)];refine⟨?_, ?_⟩
  ·rw[←this.1];congr 1;simp[wt];omega
  ·rw[←this.2];congr 1;simp[wt];omega
theorem len_count(L:List (Int×ByteArray))(hp:∀y,y∈L→0≤y.1)(c:Nat)(hq:∀x,(qOf L x).length≤c):∀n:Nat,(L.filter fun y=>decide (y.1<(n:Int))).length≤c*n
 |0=>by
  have:(L.filter fun y=>decide (y.1<((0:Nat):Int)))=[]:=by
   rw[List.filter_eq_nil_iff];intro y hy;have:=hp y hy
   simp
   omega
  rw[this];exact Nat.zero_le _
 |n+1=>by
  have ih:=len_count L hp c hq n;have h1:=hq n;have:(L.filter fun y=>decide (y.1<((n+1:Nat):Int))).length≤(L.filter fun y=>decide (y.1<(n:Int))).length+(qOf L n).length:=by
   clear ih h1 hq hp;unfold qOf;rw[List.length_map]
   induction L with
   |nil=>simp
   |cons y l ihl=>
    by_cases a:y.1<(n:Int)
    ·have b:y.1<((n+1:Nat):Int):=by omega
     have d:¬y.1=(n:Int):=by omega
     rw[List.filter_cons_of_pos (by simpa using b),List.filter_cons_of_pos (by simpa using a),List.filter_cons_of_neg (by simpa using d),List.length_cons,List.length_cons];omega
    ·by_cases d:y.1=(n:Int)
     ·have b:y.1<((n+1:Nat):Int):=by omega
      rw[List.filter_cons_of_pos (by simpa using b),List.filter_cons_of_neg (by simpa using a),List.filter_cons_of_pos (by simpa using d),List.length_cons,List.length_cons];omega
     ·have b:¬y.1<((n+1:Nat):Int):=by omega
      rw[List.filter_cons_of_neg (by simpa using b),List.filter_cons_of_neg (by simpa using a),List.filter_cons_of_neg (by simpa using d)];exact ihl
  rw[Nat.mul_succ];omega
theorem len_le{L:List (Int×ByteArray)}(hp:∀y,y∈L→0≤y.1∧y.1<65536)(hq:∀x,(qOf L x).length≤8):L.length≤524288:=by
 have h:=len_count L (fun y hy=>(hp y hy).1) 8 hq 65536;have e:(L.filter fun y=>decide (y.1<((65536:Nat):Int)))=L:=by
  rw[List.filter_eq_self];intro y hy;have:=(hp y hy).2
  simpa using this
 rw[e] at h;omega
end Rn
structure RnAt where
 rb:Nat
 lv:Value
 sv:Value
 L:List (Int×ByteArray)
structure Rns(w:World)(a:RnAt)(S:Ni.NicS):Prop where
 head:w.heap[a.rb]? =some (.cells #[a.lv,a.sv,.int .i64 S.gone] 206 (0,0))
 row:SlV w 299 2 a.lv a.L.length (Rn.wtC a.L)
 out:SlV w 9 1 a.sv S.sent.length (S.sent.map Value.string)
 q:∀x,S.q x=Rn.qOf a.L x
 pt:∀y,y∈a.L→(0≤y.1∧y.1<65536)∧y.2.size≤128
 q8:∀x,(S.q x).length≤8
 lr:∀k,a.lv.ownBlock=some k→k≠a.rb∧k<w.heap.size∧a.sv.ownBlock≠some k
 sr:∀k,a.sv.ownBlock=some k→k≠a.rb∧k<w.heap.size
def RnAt.wf(a:RnAt)(k:Nat):Prop:=k=a.rb∨a.lv.ownBlock=some k∨a.sv.ownBlock=some k
namespace Rns
variable {w w':World} {a:RnAt} {S:Ni.NicS}
theorem mod{F:Nat→Prop}(h:Rns w a S)(hm:Mod F w w')(hF:∀k,a.wf k→¬F k):Rns w' a S:=
 ⟨(hm.block _ (lt_of_block h.head) (hF _ (.inl rfl))).trans h.head,h.row.mod hm fun k hk=>hF k (.inr (.inl hk)),h.out.mod hm fun k hk=>hF k (.inr (.inr hk)),h.q,h.pt,h.q8,fun k hk=>⟨(h.lr k hk).1,Nat.lt_of_lt_of_le (h.lr k hk).2.1 hm.size,(h.lr k hk).2.2⟩,fun k hk=>⟨(h.sr k hk).1,Nat.lt_of_lt_of_le (h.sr k hk).2 hm.size⟩⟩
theorem below(h:Rns w a S)(hb:Below w.heap.size w w'):Rns w' a S:=h.mod (Mod.of_below hb (fun _=>False)) fun _ _ q=>q
theorem cells(h:Rns w a S):w.cell? ⟨a.rb,0,none⟩=some a.lv∧w.cell? ⟨a.rb,1,none⟩=some a.sv∧w.cell? ⟨a.rb,2,none⟩=some (.int .i64 S.gone)∧∀i,w.frozen? ⟨a.rb,i,none⟩=false:=by
 refine⟨?_, ?_, ?_,fun i=> ?_⟩
 ·unfold World.cell?;rw[h.head];rfl
 ·unfold World.cell?;rw[h.head];rfl
 ·unfold World.cell?;rw[h.head];rfl
 ·unfold World.frozen?;rw[h.head];simp
theorem len(h:Rns w a S):a.L.length≤524288:=Rn.len_le (fun y hy=>(h.pt y hy).1) fun x=>by rw[←h.q];exact h.q8 x
theorem at'(h:Rns w a S){i:Nat}{x:Int×ByteArray}(hx:a.L[i]? =some x):∃g off cap,a.lv=.slice (some ⟨g,off,none⟩) a.L.length cap∧w.cell? ⟨g,off+i*2,none⟩=some (.int .u16 x.1)∧w.cell? ⟨g,off+i*2+1,none⟩=some (.string x.2):=by
 have hi:=(List.getElem?_eq_some_iff.1 hx).1;have hr:=h.row;rcases hr.2 with⟨h0,_⟩|⟨g,off,cap,cur,hv,_⟩
 ·omega
 ·obtain⟨h1,h2⟩:=Rn.wtC_at _ _ _ hx;refine⟨g,off,cap,hv, ?_, ?_⟩
  ·rw[hv] at hr;rw[hr.cell (i*2) (by omega)];exact h1
  ·rw[hv] at hr;rw[Nat.add_assoc,hr.cell (i*2+1) (by omega)];exact h2
end Rns
namespace Rn
section
variable {w:World} {a:RnAt} {S:Ni.NicS}
def Post(w:World)(a:RnAt)(S:Ni.NicS)(w':World):Prop:=∃a',Rns w' a' S∧a'.rb=a.rb∧(∀k,a'.wf k→a.wf k∨w.heap.size≤k∧k<w'.heap.size)∧Mod a.wf w w'
theorem Post.refl(h:Rns w a S){w':World}(hb:Below w.heap.size w w'):Post w a S w':=⟨a,h.below hb,rfl,fun _ q=>.inl q,Mod.of_below hb _⟩
end
end Rn
structure RkAt where
 kb:Nat
 c:RcAt
 n:RnAt
 bv:Value
 rows:List Value
 tag:Nat→Nat
def RkAt.wf(a:RkAt)(k:Nat):Prop:=a.tag k≠0∧a.tag k≠5
structure Rkl(w:World)(a:RkAt)(K:Kn):Prop where
 head:w.heap[a.kb]? =some (.cells #[.pointer (some ⟨a.c.rb,0,none⟩),.pointer (some ⟨a.n.rb,0,none⟩),a.bv,.int .u32 K.now] 125 (0,0))
 hx:RwV w 1 a.c.hv K.hx.length (K.hx.map (Value.int .u32))
 caps:Rcs w a.c K.hp K.g
 nic:Rns w a.n K.N
 len:a.rows.length=K.B.length
 outer:SlV w 35 1 a.bv a.rows.length a.rows
 inner:∀(i:Nat) (v:Value) (l:List ByteArray),a.rows[i]? =some v→K.B[i]? =some l→SlV w 9 1 v l.length (l.map .string)
 bl:K.B.length≤16∧∀(i:Nat) (l:List ByteArray),K.B[i]? =some l→l.length≤1024
 ok:K.Ok
 t1:a.tag a.kb=1
 t2:∀k,a.c.wf k∨a.c.rf k→a.tag k=2
 t3:∀k,a.n.wf k→a.tag k=3
 t5:∀k,((K.hx.length≠0∧a.c.hv.ownBlock=some k)∨a.bv.ownBlock=some k∨∃v,v∈a.rows∧v.ownBlock=some k)→a.tag k=5
 lt:∀k,a.tag k≠0→k<w.heap.size
namespace Rkl
variable {w w':World} {a a':RkAt} {K K':Kn}
theorem keep{F:Nat→Prop}(h:Rkl w a K)(hm:Mod F w w')(hF:∀k,a.tag k≠0→¬F k):Rkl w' a K:=
 {
  h with
  head:=(hm.block _ (lt_of_block h.head) (hF _ (by rw[h.t1];decide))).trans h.head
  hx:=h.hx.mod hm fun k hn hk=>hF k (by rw[h.t5 k (.inl ⟨hn,hk⟩)];decide)
  caps:=h.caps.mod hm fun k hk=>hF k (by rw[h.t2 k hk];decide)
  nic:=h.nic.mod hm fun k hk=>hF k (by rw[h.t3 k hk];decide)
  outer:=h.outer.mod hm fun k hk=>hF k (by rw[h.t5 k (.inr (.inl hk))];decide)
  inner:=fun i v l hv hl=>(h.inner i v l hv hl).mod hm fun k hk=>hF k (by rw[h.t5 k (.inr (.inr ⟨v,List.mem_of_getElem? hv,hk⟩))];decide)
  lt:=fun k hk=>Nat.lt_of_lt_of_le (h.lt k hk) hm.size }
theorem below(h:Rkl w a K)(hb:Below w.heap.size w w'):Rkl w' a K:=h.keep (Mod.of_below hb (fun _=>False)) fun _ _ q=>q
theorem cells(h:Rkl w a K):w.cell? ⟨a.kb,0,none⟩=some (.pointer (some ⟨a.c.rb,0,none⟩))∧w.cell? ⟨a.kb,1,none⟩=some (.pointer (some ⟨a.n.rb,0,none⟩))∧w.cell? ⟨a.kb,2,none⟩=some a.bv∧w.cell? ⟨a.kb,3,none⟩=some (.int .u32 K.now):=by
 refine⟨?_, ?_, ?_, ?_⟩
 all_goals
  unfold World.cell?;rw[h.head];rfl
theorem free(h:Rkl w a K)(i:Nat):w.frozen? ⟨a.kb,i,none⟩=false:=by
 unfold World.frozen?;rw[h.head]
 simp
theorem row_at(h:Rkl w a K){i:Nat}{l:List ByteArray}(hl:K.B[i]? =some l):∃g off cap o rc,a.bv=.slice (some ⟨g,off,none⟩) K.B.length cap∧w.cell? ⟨g,off+i,none⟩=some (.slice o l.length rc)∧a.rows[i]? =some (.slice o l.length rc)∧SlV w 9 1 (.slice o l.length rc) l.length (l.map .string):=by
 have hi:=(List.getElem?_eq_some_iff.1 hl).1;have hir:i<a.rows.length:=by rw[h.len];exact hi
 have hr:a.rows[i]? =some a.rows[i]:=Zg hir;have hin:=h.inner i _ l hr hl;obtain⟨o,rc,he⟩:=hin.form;have ho:=h.outer;rcases ho.2 with⟨h0,_⟩|⟨g,off,cap,cur,hv,_⟩
 ·rw[h.len] at h0;omega
 ·rw[hv] at ho;refine⟨g,off,cap,o,rc,by rw[hv,h.len], ?_,by rw[hr,he],by rw[←he];exact hin⟩;rw[ho.cell i (by rw[h.len];omega),hr,he]
end Rkl
structure RkStep(w w':World)(a:RkAt)(K:Kn)(a':RkAt)(K':Kn):Prop where
 k:Rkl w' a' K'
 same:a'.kb=a.kb∧a'.c.rb=a.c.rb∧a'.n.rb=a.n.rb
 mod:Mod a.wf w w'
 tag:∀k,k<w.heap.size→a'.tag k=a.tag k
namespace RkStep
variable {w w' w'':World} {a a' a'':RkAt} {K K' K'':Kn}
theorem refl(h:Rkl w a K):RkStep w w a K a K:=⟨h,⟨rfl,rfl,rfl⟩,Mod.refl _ _,fun _ _=>rfl⟩
theorem of_below(h:Rkl w a K)(hb:Below w.heap.size w w'):RkStep w w' a K a K:=⟨h.below hb,⟨rfl,rfl,rfl⟩,Mod.of_below hb _,fun _ _=>rfl⟩
theorem wfoot(s:RkStep w w' a K a' K')(k:Nat)(hk:a'.wf k):a.wf k∨w.heap.size≤k:=by
 rcases Nat.lt_or_ge k w.heap.size with g|g
 ·exact .inl (by unfold RkAt.wf;rw[←s.tag k g];exact hk)
 ·exact .inr g
theorem trans(s:RkStep w w' a K a' K')(t:RkStep w' w'' a' K' a'' K''):RkStep w w'' a K a'' K'':=
 ⟨t.k,⟨t.same.1.trans s.same.1,t.same.2.1.trans s.same.2.1,t.same.2.2.trans s.same.2.2⟩,s.mod.trans t.mod fun i _ g=>s.wfoot i g,fun k hk=>(t.tag k (Nat.lt_of_lt_of_le hk s.mod.size)).trans (s.tag k hk)⟩
theorem pre{W:World}(s:RkStep w w' a K a' K')(hb:Below W.heap.size W w):RkStep W w' a K a' K':=
 ⟨s.k,s.same,(Mod.of_below hb _).trans s.mod fun i _ g=>.inl g,fun k hk=>s.tag k (Nat.lt_of_lt_of_le hk hb.size)⟩
theorem setCaps(h:Rkl w a K){c:RcAt}{G:Int→Option Gr}(hc:Rcs w' c K.hp G)(hr:c.rb=a.c.rb)(hv:c.hv=a.c.hv)(hf:∀k,c.wf k∨c.rf k→(a.c.wf k∨a.c.rf k)∨w.heap.size≤k∧k<w'.heap.size)(hm:Mod (fun k=>a.c.wf k∨a.c.rf k) w w'):RkStep w w' a K { a with c:=c,tag:=KStep.grow w w' a.tag 2 } { K with g:=G }:=by
 have ne:∀k,a.tag k≠2→¬(a.c.wf k∨a.c.rf k):=fun k hk e=>hk (h.t2 k e)
 have old:∀k,a.tag k≠0→KStep.grow w w' a.tag 2 k=a.tag k:=fun k hk=>KStep.grow_old (h.lt k hk)
 have hR:Rkl w' { a with c:=c,tag:=KStep.grow w w' a.tag 2 } { K with g:=G }:=
     {
      head:=by rw[hr];exact(hm.block _ (lt_of_block h.head) (ne _ (by rw[h.t1];decide))).trans h.head
      hx:=by rw[hv];exact h.hx.mod hm fun k hn hk=>ne k (by rw[h.t5 k (.inl ⟨hn,hk⟩)];decide)
      caps:=hc
      nic:=h.nic.mod hm fun k hk=>ne k (by rw[h.t3 k hk];decide)
      len:=h.len
      outer:=h.outer.mod hm fun k hk=>ne k (by rw[h.t5 k (.inr (.inl hk))];decide)
      inner:=fun i v l hv hl=>(h.inner i v l hv hl).mod hm fun k hk=>ne k (by rw[h.t5 k (.inr (.inr ⟨v,List.mem_of_getElem? hv,hk⟩))];decide)
      bl:=h.bl
      ok:=⟨h.ok.n0,h.ok.n1,h.ok.bs,h.ok.q,h.ok.hl,h.ok.g0⟩
      t1:=by show KStep.grow w w' a.tag 2 a.kb=1;rw[old _ (by rw[h.t1];decide)];exact h.t1
      t2:=fun k hk=>by
       show KStep.grow w w' a.tag 2 k=2
       rcases hf k hk with z|⟨z1,z2⟩
       ·rw[old _ (by rw[h.t2 k z];decide)];exact h.t2 k z
       ·unfold KStep.grow;rw[if_neg (by omega),if_pos z2]
      t3:=fun k hk=>by show KStep.grow w w' a.tag 2 k=3;rw[old _ (by rw[h.t3 k hk];decide)];exact h.t3 k hk
      t5:=fun k hk=>by
       have hk':(K.hx.length≠0∧a.c.hv.ownBlock=some k)∨a.bv.ownBlock=some k∨∃v,v∈a.rows∧v.ownBlock=some k:=by rw[←hv];exact hk
       show KStep.grow w w' a.tag 2 k=5
       rw[old _ (by rw[h.t5 k hk'];decide)];exact h.t5 k hk'
      lt:=fun k hk=>by
       have hk:KStep.grow w w' a.tag 2 k≠0:=hk;unfold KStep.grow at hk;have:=hm.size
       split at hk
       ·omega
       ·split at hk
        ·assumption
        ·exact absurd rfl hk }
 refine⟨hR,⟨rfl,hr,rfl⟩,hm.mono fun k _ e=>⟨by rw[h.t2 k e];decide,by rw[h.t2 k e];decide⟩,fun k hk=>KStep.grow_old hk⟩
theorem setNic(h:Rkl w a K){N:Ni.NicS}(hp:Rn.Post w a.n N w')(hq:∀x s,s∈N.q x→s.size≤128)(hg:0≤N.gone):∃a',RkStep w w' a K a' { K with N:=N }:=by
 obtain⟨n,hn,hr,hf,hm⟩:=hp;have ne:∀k,a.tag k≠3→¬a.n.wf k:=fun k hk e=>hk (h.t3 k e)
 have old:∀k,a.tag k≠0→KStep.grow w w' a.tag 3 k=a.tag k:=fun k hk=>KStep.grow_old (h.lt k hk)
 have hR:Rkl w' { a with n:=n,tag:=KStep.grow w w' a.tag 3 } { K with N:=N }:=
     {
      head:=by rw[hr];exact(hm.block _ (lt_of_block h.head) (ne _ (by rw[h.t1];decide))).trans h.head
      hx:=h.hx.mod hm fun k hn hk=>ne k (by rw[h.t5 k (.inl ⟨hn,hk⟩)];decide)
      caps:=h.caps.mod hm fun k hk=>ne k (by rw[h.t2 k hk];decide)
      nic:=hn
      len:=h.len
      outer:=h.outer.mod hm fun k hk=>ne k (by rw[h.t5 k (.inr (.inl hk))];decide)
      inner:=fun i v l hv hl=>(h.inner i v l hv hl).mod hm fun k hk=>ne k (by rw[h.t5 k (.inr (.inr ⟨v,List.mem_of_getElem? hv,hk⟩))];decide)
      bl:=h.bl
      ok:=⟨h.ok.n0,h.ok.n1,h.ok.bs,hq,h.ok.hl,hg⟩
      t1:=by show KStep.grow w w' a.tag 3 a.kb=1;rw[old _ (by rw[h.t1];decide)];exact h.t1
      t2:=fun k hk=>by show KStep.grow w w' a.tag 3 k=2;rw[old _ (by rw[h.t2 k hk];decide)];exact h.t2 k hk
      t3:=fun k hk=>by
       show KStep.grow w w' a.tag 3 k=3
       rcases hf k hk with z|⟨z1,z2⟩
       ·rw[old _ (by rw[h.t3 k z];decide)];exact h.t3 k z
       ·unfold KStep.grow;rw[if_neg (by omega),if_pos z2]
      t5:=fun k hk=>by show KStep.grow w w' a.tag 3 k=5;rw[old _ (by rw[h.t5 k hk];decide)];exact h.t5 k hk
      lt:=fun k hk=>by
       have hk:KStep.grow w w' a.tag 3 k≠0:=hk;unfold KStep.grow at hk;have:=hm.size
       split at hk
       ·omega
       ·split at hk
        ·assumption
        ·exact absurd rfl hk }
 refine⟨_,hR,⟨rfl,rfl,hr⟩,hm.mono fun k _ e=>⟨by rw[h.t3 k e];decide,by rw[h.t3 k e];decide⟩,fun k hk=>KStep.grow_old hk⟩
theorem setRows(h:Rkl w a K){W:World}(hb:Below w.heap.size w W){bv:Value}{rows:List Value}{B:List (List ByteArray)}(hl:rows.length=B.length)(ho:SlV W 35 1 bv rows.length rows)(hi:∀(i:Nat) (v:Value) (l:List ByteArray),rows[i]? =some v→B[i]? =some l→SlV W 9 1 v l.length (l.map .string))(hbl:B.length≤16∧∀(i:Nat) (l:List ByteArray),B[i]? =some l→l.length≤1024)(hbs:∀(i:Nat) (l:List ByteArray),B[i]? =some l→∀s,s∈l→s.size=64)
  (hf:∀k,(bv.ownBlock=some k∨∃v,v∈rows∧v.ownBlock=some k)→(a.bv.ownBlock=some k∨∃v,v∈a.rows∧v.ownBlock=some k)∨w.heap.size≤k∧k<W.heap.size):∃a',RkStep w (W.setCell ⟨a.kb,2,none⟩ bv) a K a' { K with B:=B }:=by
 have h1:=h.below hb;have hm:Mod (fun k=>k=a.kb) W (W.setCell ⟨a.kb,2,none⟩ bv):=Mod.setCell (F:=fun k=>k=a.kb) (Mod.refl _ _) ⟨a.kb,2,none⟩ (.inl rfl) _;have hz:=hm.size;have hzb:=hb.size;have hk1:=lt_of_block h.head;have ne:∀k,a.tag k≠1→¬k=a.kb:=fun k hk e=>hk (e▸h.t1)
 have nf:∀k,(bv.ownBlock=some k∨∃v,v∈rows∧v.ownBlock=some k)→¬k=a.kb:=fun k hk=>by
  rcases hf k hk with z|⟨z1,z2⟩
  ·exact ne k (by rw[h.t5 k (.inr z)];decide)
  ·omega
 have old:∀k,a.tag k≠0→KStep.grow w (W.setCell ⟨a.kb,2,none⟩ bv) a.tag 5 k=a.tag k:=fun k hk=>KStep.grow_old (h.lt k hk)
 have hR:Rkl (W.setCell ⟨a.kb,2,none⟩ bv) { a with bv:=bv,rows:=rows,tag:=KStep.grow w (W.setCell ⟨a.kb,2,none⟩ bv) a.tag 5 } { K with B:=B }:=
     {
      head:=heap_setCell_same W a.kb 2 _ _ bv h1.head
      hx:=h1.hx.mod hm fun k hn hk=>ne k (by rw[h.t5 k (.inl ⟨hn,hk⟩)];decide)
      caps:=h1.caps.mod hm fun k hk=>ne k (by rw[h.t2 k hk];decide)
      nic:=h1.nic.mod hm fun k hk=>ne k (by rw[h.t3 k hk];decide)
      len:=hl
      outer:=ho.mod hm fun k hk=>nf k (.inl hk)
      inner:=fun i v l hv hl=>(hi i v l hv hl).mod hm fun k hk=>nf k (.inr ⟨v,List.mem_of_getElem? hv,hk⟩)
      bl:=hbl
      ok:=⟨h.ok.n0,h.ok.n1,hbs,h.ok.q,h.ok.hl,h.ok.g0⟩
      t1:=by show KStep.grow w _ a.tag 5 a.kb=1;rw[old _ (by rw[h.t1];decide)];exact h.t1
      t2:=fun k hk=>by show KStep.grow w _ a.tag 5 k=2;rw[old _ (by rw[h.t2 k hk];decide)];exact h.t2 k hk
      t3:=fun k hk=>by show KStep.grow w _ a.tag 5 k=3;rw[old _ (by rw[h.t3 k hk];decide)];exact h.t3 k hk
      t5:=fun k hk=>by
       show KStep.grow w _ a.tag 5 k=5
       rcases hk with z|z
       ·rw[old _ (by rw[h.t5 k (.inl z)];decide)];exact h.t5 k (.inl z)
       ·rcases hf k z with y|⟨y1,y2⟩
        ·rw[old _ (by rw[h.t5 k (.inr y)];decide)];exact h.t5 k (.inr y)
        ·unfold KStep.grow;rw[if_neg (by omega),if_pos (by omega)]
      lt:=fun k hk=>by
       have hk:KStep.grow w _ a.tag 5 k≠0:=hk;unfold KStep.grow at hk
       split at hk
       ·omega
       ·split at hk
        ·assumption
        ·exact absurd rfl hk }
 refine⟨_,hR,⟨rfl,rfl,rfl⟩,(Mod.of_below hb _).same (hm.mono fun k _ e=>by subst e;exact⟨by rw[h.t1];decide,by rw[h.t1];decide⟩),fun k hk=>KStep.grow_old hk⟩
end RkStep
namespace Rk
theorem info_strs:(Tryz.prog.info? 35).map (fun i=>(i.zero,i.size,i.bytes))=some (some (.slice none 0 0),1,24):=by kernel_rfl
section
variable {w:World} {a:RkAt} {K:Kn}
theorem setBlock(h:Rkl w a K){id n:Int}{t:ByteArray}(hb:Kn.block K.B id n=some t)(s:ByteArray)(hs:s.size=64):Calls Tryz.prog 71 #[.pointer (some ⟨a.kb,0,none⟩),.int .u32 id,.int .u32 n,.string s] w fun e w'=>e=.returned (.tuple #[])∧∃a',RkStep w w' a K a' (K.setBlock id n s):=by
 have hse:Kn.setE K.B id n s=0:=by unfold Kn.setE;rw[hb,if_neg (by simp[hs])]
 obtain⟨i,j,l,rfl,rfl,hl,ht⟩:=Kn.block_some hb;have hK:K.setBlock i j s= { K with B:=K.B.set i (l.set j s) }:=by unfold Kn.setBlock;rw[if_pos hse,Kn.setB_eq hl]
 rw[hK];clear hK hse hb;obtain⟨g,off,cap,ro,rc,hbv,hrow,hri,hin⟩:=h.row_at hl;have hi:=(List.getElem?_eq_some_iff.1 hl).1;have hj:=(List.getElem?_eq_some_iff.1 ht).1;have hil:=h.bl.1;have hjl:=h.bl.2 i l hl;obtain⟨c0,c1,c2,c3⟩:=h.cells;rw[hbv] at c2;obtain⟨i0,hi0,hz0,hz1,hz2⟩:=Ni.infoStr';obtain⟨i1,hi1,hy0,hy1,hy2⟩:=info_parts info_strs
 -- the row's copy
 rcases hin.2 with⟨e0,_⟩|⟨rg,roff,rcap,rcur,er,_⟩
 ·omega
 rw[er] at hin hri hrow;have hA1:=Rw.app (W:=w) (t:=35) Rw.none_str Tryz.underlying35 hi0 hz0 hz1 hz2 rfl (by omega) (by omega) (SlV.nil w 9 1) (m:=l.length) (cap:=rcap) (ys:=l.map .string) (by simp) (a:=some ⟨rg,roff,none⟩) (by
  have:=Rw.at_part hin rfl 0 l.length (by omega) (by omega);simp only[Nat.zero_mul,List.drop_zero,Nat.sub_zero,Nat.add_zero,Nat.mul_one] at this;rw[List.take_of_length_le (by simp)] at this;exact this) (by omega) (fun u hu=>by obtain⟨x,_,rfl⟩:=List.mem_map.1 hu;rfl)
 obtain⟨o1,k1,W1,hr1,hs1,hm1,hw1⟩:=hA1;rw[Nat.zero_add] at hr1 hs1 hw1;rw[List.nil_append] at hs1;have hb1:Below w.heap.size w W1:=(hm1.mono fun k _ z=>(nomatch z):Mod (fun _=>False) w W1).toBelow;rcases hs1.2 with⟨e0,_⟩|⟨g1,off1,k1',cur1,e1,_⟩
 ·omega
 simp only[Value.slice.injEq,true_and] at e1;obtain⟨rfl,rfl⟩:=e1;have hg1:w.heap.size≤g1∧g1<W1.heap.size:=by
  rcases hw1 with z|⟨k,z,z1,z2⟩
  ·cases z
  ·cases z;exact⟨z1,z2⟩
 -- the block is put
 have hs2:=hs1.setCell j (by omega) (.string s);rw[←List.map_set] at hs2;have hb2:Below w.heap.size w (W1.setCell ⟨g1,off1+j,none⟩ (.string s)):=Mod.below hb1 (Mod.setCell (F:=fun k=>k=g1) (Mod.refl _ _) ⟨g1,off1+j,none⟩ (.inl rfl) _) hb1.size fun k _ e=>by subst e;exact hg1.1
 have d1:W1.cell? ⟨g1,off1+j,none⟩=some (.string t):=by rw[hs1.cell j (by omega),List.getElem?_map,ht];rfl
 have d2:=hs1.free (by omega) (off1+j);have d3:(W1.setCell ⟨g1,off1+j,none⟩ (.string s)).cell? ⟨a.kb,2,none⟩=some (.slice (some ⟨g,off,none⟩) K.B.length cap):=cell_below hb2 c2;have hz12:W1.heap.size≤(W1.setCell ⟨g1,off1+j,none⟩ (.string s)).heap.size:=by simp[World.setCell]
 -- the copy of the rows
 have h2:=h.below hb2;have hout:=h2.outer;rw[hbv,h.len] at hout;have hA2:=Rw.app (W:=W1.setCell ⟨g1,off1+j,none⟩ (.string s)) (t:=123) Rw.none_strs Tryz.underlying123 hi1 hy0 hy1 hy2 rfl (by omega) (by omega) (SlV.nil _ 35 1) (m:=K.B.length) (cap:=cap) (ys:=a.rows) (by rw[h.len];omega) (a:=some ⟨g,off,none⟩) (by
  have:=Rw.at_part hout rfl 0 K.B.length (by omega) (by omega);simp only[Nat.zero_mul,List.drop_zero,Nat.sub_zero,Nat.add_zero,Nat.mul_one] at this;rw[List.take_of_length_le (by rw[h.len];omega)] at this;exact this) (by omega) (fun u hu=>by
   obtain⟨q,hq,rfl⟩:=List.mem_iff_getElem.1 hu;obtain⟨o,c,e⟩:=(h.inner q _ _ (Zg hq) (Zg (by rw[←h.len];exact hq))).form;rw[e];rfl)
 obtain⟨o2,k2,W2,hr2,hs3,hm2,hw2⟩:=hA2;rw[Nat.zero_add] at hr2 hs3 hw2;rw[List.nil_append] at hs3;have hb3:Below (W1.setCell ⟨g1,off1+j,none⟩ (.string s)).heap.size (W1.setCell ⟨g1,off1+j,none⟩ (.string s)) W2:=(hm2.mono fun k _ z=>(nomatch z):Mod (fun _=>False) _ W2).toBelow;have hb3w:=below_th hb2 hb3;rcases hs3.2 with⟨e0,_⟩|⟨g2,off2,k2',cur2,e2,_⟩
 ·omega
 simp only[Value.slice.injEq,true_and] at e2;obtain⟨rfl,rfl⟩:=e2;have hg2:(W1.setCell ⟨g1,off1+j,none⟩ (.string s)).heap.size≤g2∧g2<W2.heap.size:=by
  rcases hw2 with z|⟨k,z,z1,z2⟩
  ·cases z
  ·cases z;exact⟨z1,z2⟩
 have hs4:=hs3.setCell i (by omega) (.slice (some ⟨g1,off1,none⟩) l.length k1);have hm3:Mod (fun k=>k=g2) W2 (W2.setCell ⟨g2,off2+i,none⟩ (.slice (some ⟨g1,off1,none⟩) l.length k1)):=Mod.setCell (F:=fun k=>k=g2) (Mod.refl _ _) ⟨g2,off2+i,none⟩ (.inl rfl) _;have hb4:Below w.heap.size w (W2.setCell ⟨g2,off2+i,none⟩ (.slice (some ⟨g1,off1,none⟩) l.length k1)):=Mod.below hb3w hm3 hb3w.size fun k _ e=>by subst e;omega
 have d4:W2.cell? ⟨g2,off2+i,none⟩=some (.slice (some ⟨rg,roff,none⟩) l.length rcap):=by rw[hs3.cell i (by omega),hri]
 have d5:=hs3.free (by omega) (off2+i);have h4:=h.below hb4;obtain⟨_,_,d6,_⟩:=h4.cells;rw[hbv] at d6;have d7:=h4.free 2;have hnew:SlV (W2.setCell ⟨g2,off2+i,none⟩ (.slice (some ⟨g1,off1,none⟩) l.length k1)) 9 1 (.slice (some ⟨g1,off1,none⟩) l.length k1) (l.set j s).length ((l.set j s).map .string):=by
  rw[List.length_set];exact(hs2.below hb3).mod hm3 fun k hk e=>by
   have hk:some g1=some k:=hk;have hk:=Option.some.inj hk;omega
 have hstep:=RkStep.setRows h hb4 (bv:=.slice (some ⟨g2,off2,none⟩) K.B.length k2) (rows:=a.rows.set i (.slice (some ⟨g1,off1,none⟩) l.length k1)) (B:=K.B.set i (l.set j s)) (by rw[List.length_set,List.length_set,h.len]) (by rw[List.length_set,h.len];exact hs4) (fun q v m hv hm=>by
   by_cases e:q=i
   ·subst e;rw[List.getElem?_set_self (by rw[h.len];omega)] at hv;rw[List.getElem?_set_self (by omega)] at hm;cases hv;cases hm;exact hnew
   ·rw[List.getElem?_set_ne (fun z=>e z.symm)] at hv hm;exact h4.inner q v m hv hm) ⟨by rw[List.length_set];exact hil,fun q m hm=>by
   by_cases e:q=i
   ·subst e;rw[List.getElem?_set_self (by omega)] at hm;cases hm;rw[List.length_set];exact hjl
   ·rw[List.getElem?_set_ne (fun z=>e z.symm)] at hm;exact h.bl.2 q m hm⟩ (fun q m hm=>by
   by_cases e:q=i
   ·subst e;rw[List.getElem?_set_self (by omega)] at hm;cases hm;intro z hz;rcases List.mem_or_eq_of_mem_set hz with y|y
    ·exact h.ok.bs q l hl z y
    ·rw[y];exact hs
   ·rw[List.getElem?_set_ne (fun z=>e z.symm)] at hm;exact h.ok.bs q m hm) (fun k hk=>by
   have hz3:=hm3.size;have hz4:=hb3.size;have hz5:=hb1.size;rcases hk with z|⟨v,hv,z⟩
   ·have z:some g2=some k:=z;have z:=Option.some.inj z;exact .inr (by omega)
   ·rcases List.mem_or_eq_of_mem_set hv with y|y
    ·exact .inl (.inr ⟨v,y,z⟩)
    ·subst y;have z:some g1=some k:=z;have z:=Option.some.inj z;exact .inr (by omega))
 have HEnd:=Lh hstep;have HR1:=Lh hr1;have HR2:=Lh hr2;have ii:(i:Int)<K.B.length:=by omega
 have jj:(j:Int)<l.length:=by omega
 clear hstep hr1 hr2 h h2 h4 hnew hs1 hs2 hs3 hs4 hm1 hm2 hm3 hw1 hw2 hb1 hb2 hb3 hb3w hb4 hout hin hri hl ht hbv hi0 hz0 hz1 hz2 hi1 hy0 hy1 hy2 hs;generalize K.B.length=nb at*;generalize l.length=nl at*;go_enter func71,ntmps71;go_wp2_with (at_builtin;first
  |refine R11.wpList_append_run rfl _ _ _ rfl rfl rfl HR1.out ?_
  |refine R11.wpList_append_run rfl _ _ _ rfl rfl rfl HR2.out ?_)
 go_end0;exact⟨rfl,HEnd.out⟩
theorem has(h:Rkl w a K){id n:Int}(i0:0≤id)(i1:id≤4294967295)(n0:0≤n)(n1:n≤4294967295):Calls Tryz.prog 70 #[.pointer (some ⟨a.kb,0,none⟩),.int .u32 id,.int .u32 n] w fun e w'=>e=.returned (.bool (Kn.block K.B id n).isSome)∧w=w':=by
 obtain⟨i,rfl⟩:=Int.eq_ofNat_of_zero_le i0;obtain⟨j,rfl⟩:=Int.eq_ofNat_of_zero_le n0;obtain⟨c0,c1,c2,c3⟩:=h.cells;have hil:=h.bl.1;have wb:IntKind.u32.wrap (K.B.length:Int)=K.B.length:=wrap32 (by omega) (by omega)
 by_cases hi:i<K.B.length
 ·have hl:K.B[i]? =some K.B[i]:=Zg hi;have hjl:=h.bl.2 i _ hl;obtain⟨g,off,cap,ro,rc,hbv,hrow,hri,hin⟩:=h.row_at hl;rw[hbv] at c2;have hv:(Kn.block K.B i j).isSome=decide (j<K.B[i].length):=by
   by_cases q:j<K.B[i].length
   ·rw[Kn.block_of hl (Zg q),decide_eq_true q];rfl
   ·rw[decide_eq_false q];cases hb:Kn.block K.B i j with
    |none=>rfl
    |some t=>
     obtain⟨i',j',l,e1,e2,hl',ht⟩:=Kn.block_some hb;have e1:i=i':=by omega
     have e2:j=j':=by omega
     subst e1;subst e2;rw[hl] at hl';cases hl';have:=(List.getElem?_eq_some_iff.1 ht).1;omega
  rw[hv];have ii:(i:Int)<K.B.length:=by omega
  obtain⟨m,hm⟩:∃m,K.B[i].length=m:=⟨_,rfl⟩;rw[hm] at hjl hrow⊢;have wm:IntKind.u32.wrap (m:Int)=m:=wrap32 (by omega) (by omega);have ed:decide ((j:Int)<(m:Int))=decide (j<m):=by simp
  have Hd:=Lh ed;clear h hl hbv hri hin hv hm ed;generalize K.B.length=nb at*;go_enter func70,ntmps70;go_wp2;go_ret;exact⟨rfl,rfl⟩
 ·have hv:(Kn.block K.B i j).isSome=false:=by
   cases hb:Kn.block K.B i j with
   |none=>rfl
   |some t=>
    obtain⟨i',j',l,e1,e2,hl',ht⟩:=Kn.block_some hb;have:=(List.getElem?_eq_some_iff.1 hl').1;omega
  rw[hv];obtain⟨bo,bc,hbv⟩:=h.outer.form;rw[hbv,h.len] at c2;have ii:¬(i:Int)<K.B.length:=by omega
  clear h hv hbv;generalize K.B.length=nb at*;go_enter func70,ntmps70;go_wp2;go_ret;exact⟨rfl,rfl⟩
end
end Rk
open Go.RowKit Word
structure Duo(w0 w:World)(cb sb mb:Nat)(A:List Pg)(rc:List Int)(pcc:Int)(db rb:Nat)(lv:Value)(R:List Rp)(rd:List Int)(pcd:Int):Prop where
 cp:Cpu 291 w cb rc pcc
 dp:Cpu 153 w db rd pcd
 pair:Pair w sb mb A rb lv R
 bel:Below w0.heap.size w0 w
 c0:w0.heap.size≤cb
 d0:w0.heap.size≤db
 a0:∀k,Spc.foot sb mb A k→w0.heap.size≤k
 r0:∀k,Rsp.foot rb lv R k→w0.heap.size≤k
 cd:cb≠db
 ca:¬Spc.foot sb mb A cb
 cr:¬Rsp.foot rb lv R cb
 da:¬Spc.foot sb mb A db
 dr:¬Rsp.foot rb lv R db
namespace Duo
variable {w0 w w':World} {cb sb mb:Nat} {A A':List Pg} {rc rc':List Int} {pcc pcc':Int} {db rb:Nat} {lv lv':Value} {R R':List Rp} {rd rd':List Int} {pcd pcd':Int}
theorem below(h:Duo w0 w cb sb mb A rc pcc db rb lv R rd pcd)(hb:Below w.heap.size w w'):Duo w0 w' cb sb mb A rc pcc db rb lv R rd pcd:=
 { h with cp:=h.cp.below hb,dp:=h.dp.below hb,pair:=h.pair.below hb,bel:=h.bel.trans (hb.mono h.bel.size) }
theorem setC(h:Duo w0 w cb sb mb A rc pcc db rb lv R rd pcd)(hc:Cpu 291 w' cb rc' pcc')(hm:Mod (fun k=>k=cb) w w'):Duo w0 w' cb sb mb A rc' pcc' db rb lv R rd pcd:=
 { h with cp:=hc,dp:=h.dp.keep hm (fun g=>h.cd g.symm),pair:=⟨h.pair.sp.keep hm (fun k hk g=>h.ca (g▸hk)),h.pair.rp.keep hm (fun k hk g=>h.cr (g▸hk)),h.pair.apart⟩,bel:=hm.below h.bel h.bel.size (fun i _ hi=>hi▸h.c0) }
theorem setD(h:Duo w0 w cb sb mb A rc pcc db rb lv R rd pcd)(hd:Cpu 153 w' db rd' pcd')(hm:Mod (fun k=>k=db) w w'):Duo w0 w' cb sb mb A rc pcc db rb lv R rd' pcd':=
 { h with cp:=h.cp.keep hm h.cd,dp:=hd,pair:=⟨h.pair.sp.keep hm (fun k hk g=>h.da (g▸hk)),h.pair.rp.keep hm (fun k hk g=>h.dr (g▸hk)),h.pair.apart⟩,bel:=hm.below h.bel h.bel.size (fun i _ hi=>hi▸h.d0) }
theorem left(h:Duo w0 w cb sb mb A rc pcc db rb lv R rd pcd)(s:SStep w w' sb mb A A'):Duo w0 w' cb sb mb A' rc pcc db rb lv R rd pcd:=
 { h with cp:=h.cp.keep s.mod h.ca,dp:=h.dp.keep s.mod h.da,pair:=h.pair.left s,bel:=s.mod.below h.bel h.bel.size (fun i _ hi=>h.a0 i hi),a0:=fun k hk=>(s.foot k hk).elim (h.a0 k) fun g=>Nat.le_trans h.bel.size g,ca:=fun g=>(s.foot _ g).elim h.ca fun g=>by have:=h.cp.lt;omega,da:=fun g=>(s.foot _ g).elim h.da fun g=>by have:=h.dp.lt;omega }
theorem right(h:Duo w0 w cb sb mb A rc pcc db rb lv R rd pcd)(s:RStep w w' rb lv R lv' R'):Duo w0 w' cb sb mb A rc pcc db rb lv' R' rd pcd:=
 { h with cp:=h.cp.keep s.mod h.cr,dp:=h.dp.keep s.mod h.dr,pair:=h.pair.right s,bel:=s.mod.below h.bel h.bel.size (fun i _ hi=>h.r0 i hi),r0:=fun k hk=>(s.foot k hk).elim (h.r0 k) fun g=>Nat.le_trans h.bel.size g,cr:=fun g=>(s.foot _ g).elim h.cr fun g=>by have:=h.cp.lt;omega,dr:=fun g=>(s.foot _ g).elim h.dr fun g=>by have:=h.dp.lt;omega }
theorem weaken{w00:World}(h:Duo w0 w cb sb mb A rc pcc db rb lv R rd pcd)(hb:Below w00.heap.size w00 w0):Duo w00 w cb sb mb A rc pcc db rb lv R rd pcd:=
 { h with bel:=hb.trans (h.bel.mono hb.size),c0:=Nat.le_trans hb.size h.c0,d0:=Nat.le_trans hb.size h.d0,a0:=fun k hk=>Nat.le_trans hb.size (h.a0 k hk),r0:=fun k hk=>Nat.le_trans hb.size (h.r0 k hk) }
theorem cell(h:Duo w0 w cb sb mb A rc pcc db rb lv R rd pcd){p:Addr}{v:Value}(hc:w0.cell? p=some v)(hp:p.block<w0.heap.size):w.cell? p=some v:=(World.cell?_of_block (w:=w0) (h.bel.block _ hp)).trans hc
end Duo
namespace Cp
def regsK(xs:Nat→Int)(k:Nat):List Int:=(List.range 16).map fun i=>if 0<i∧i<k then xs i else 0
theorem regsK_zero(xs:Nat→Int):regsK xs 0=List.replicate 16 0:=rfl
theorem regsK_succ(xs:Nat→Int)(k:Nat)(hk:k<16):putG (regsK xs k) k (xs k)=regsK xs (k+1):=by
 by_cases h0:k=0
 ·subst h0;rfl
 ·rw[putG_nat _ _ _ h0]
  apply List.ext_getElem?
  intro n;unfold regsK
  by_cases hn:n<16
  ·rw[List.getElem?_set];simp only[List.length_map,List.length_range,List.getElem?_map,List.getElem?_range hn,Option.map_some]
   by_cases e:k=n
   ·subst e;rw[if_pos rfl,if_pos hk,if_pos (by omega)]
   ·rw[if_neg e]
    by_cases g:0<n∧n<k
    ·rw[if_pos g,if_pos (by omega)]
    ·rw[if_neg g,if_neg (by omega)]
  ·rw[List.getElem?_eq_none (by simp;omega),List.getElem?_eq_none (by simp;omega)]
def pgsK(ps:Nat→Int):Nat→List Pg
 |0=>[]
 |k+1=>if ps k<8 then Sp.mapA (pgsK ps k) (k*256) 0 (ps k) else pgsK ps k
theorem pgsK_addr(ps:Nat→Int):∀(k:Nat) (p:Pg),p∈pgsK ps k→p.addr<k*256∧p.addr % 256=0
 |0,p,h=>by cases h
 |k+1,p,h=>by
  unfold pgsK at h
  split at h
  ·unfold Sp.mapA at h
   split at h
   ·rcases mem_insPg.1 h with rfl|g
    ·show((k:Int)*256)<((k+1:Nat):Int)*256∧((k:Int)*256) % 256=0
     omega
    ·have:=pgsK_addr ps k p g;omega
   ·have:=pgsK_addr ps k p h;omega
  ·have:=pgsK_addr ps k p h;omega
theorem pgsK_free(ps:Nat→Int)(k:Nat)(hk:k≤16)(h0:0≤ps k)(h8:ps k<8):Sp.mapE (pgsK ps k) (k*256) (ps k)=0:=by
 have hm:Sp.mayB ((k:Int)*256)=true:=by unfold Sp.mayB;rw[Bool.and_eq_true];exact⟨beq_iff_eq.2 (by omega),decide_eq_true (by omega)⟩
 have hn:pageAt (pgsK ps k) ((k:Int)*256)=none:=by
  unfold pageAt;rw[show((k:Int)*256) - (k:Int)*256 % 256=(k:Int)*256 by omega];refine atAddr_eq_none fun q hq=> ?_
  have:=pgsK_addr ps k q hq;omega
 unfold Sp.mapE;rw[if_neg (by rw[hm];rintro(g|g);cases g;omega),hn];rfl
def madeA(ps:Nat→Int)(np:Nat)(at':Int)(s:ByteArray)(wh:Int)(t:ByteArray):List Pg:=Sp.putA (Sp.putA (pgsK ps np) (at' % 4096) 0 s) (wh % 4096) 0 t
end Cp
end Go.Proofs.YtjjdjpdmgaipeaaGreat
namespace Go.Proofs.YtjjdjpdmgaipeaaGreat.WordRef
open Go.RowKit Word
theorem info_u8:(Tryz.prog.info? 5).map (fun i=>(i.zero,i.size,i.bytes))=some (some (.int .u8 0),1,1):=by kernel_rfl
theorem putL_next(v:Int)(k:Nat)(h0:0≤v)(h1:v≤4294967295)(hk:k<4):(putL v).take (k+1)=(putL v).take k++[v / 256 ^ k % 256]:=by
 have:k=0∨k=1∨k=2∨k=3:=by omega
 rcases this with rfl|rfl|rfl|rfl
 ·simp[putL]
 ·simp[putL]
 ·simp[putL]
 ·simp[putL];omega
theorem div256(v:Int)(k:Nat):v / 256 ^ k / 256=v / 256 ^ (k+1):=by
 rw[Int.ediv_ediv_of_nonneg (Int.le_of_lt (Int.pow_pos (by omega))),Int.pow_succ]
theorem putL_len(v:Int)(k:Nat)(hk:k≤4):((putL v).take k).length=k:=by rw[List.length_take];simp[putL];omega
def bytesRel(v:Int)(n:Nat)(W:World)(sv sb si:Value)(wr:World):Prop:=
 ∃(k:Nat) (x:Int),k≤n∧si=.int .i64 k∧sv=.int .u32 x∧0≤x∧x≤4294967295∧x=v / 256 ^ k∧Buf wr W.heap.size 5 sb ((putL v).take k)∧Below W.heap.size W wr
theorem Bytes(v:Int)(n:Nat)(hn:n≤4)(h0:0≤v)(h1:v≤4294967295)(w:World):
  Calls Tryz.prog 317 #[.int .u32 v,.int .i64 n] w fun e w'=>e=.returned (.string (putS v n))∧Below w.heap.size w w':=by
 obtain⟨i0,hi,hz0,hz1,hz2⟩:=info_parts info_u8;have Hi:=Lh hi;have Hz0:=Lh hz0;have Hz1:=Lh hz1;have Hz2:=Lh hz2;clear hi hz0 hz1 hz2;go_enter func317,ntmps317;go_wp2;go_loopw [0,5,6] (fun sv sb si wr=>bytesRel v n w sv sb si wr) (fun _ _ i _=>n - (intOf i).toNat)
 case atStart=>exact⟨0,v,by omega,rfl,rfl,h0,h1,by simp,Buf.nil _ _ _,Below.refl _ _⟩
 case round=>
  obtain⟨k,x,hk,rfl,rfl,x0,x1,hx,hbuf,hbel⟩:=hrel;obtain⟨L,hL⟩:∃L,(putL v).take k=L:=⟨_,rfl⟩;rw[hL] at hbuf;have Ho:=Lh hbuf;have Hb:=Lh hbel;have hbase:=hbel.size
  by_cases hk2:k<n
  ·have Hx:=Lh hx;have Hn:=Lh (putL_next v k h0 h1 (by omega));have Hl:=Lh (show L.length=k by rw[←hL];exact putL_len v k (by omega));have HL:=Lh hL;clear hx hbuf hbel hL;go_wp2_with (at_builtin;refine wpList_append_lies _ (by rfl) _ _ _ (by rfl) (w.heap.size) 5 i0 (.int .u8 0) 1 1 Tryz.underlying30 Hi.out Hz0.out Hz1.out Hz2.out rfl (by omega) u5 _ _ (by rfl) (World.ownsRow.alloc Ho.out _) ⟨wr.heap.size,0,none⟩ 1 1 [.int .u8 (x % 256)] (by rfl) (by rfl) (World.news_of_block (cs:= #[.int .u8 (x % 256)]) (t:=5) (fr:=(0,0)) (heap_alloc_new wr _)) (fun x hx=>by simp at hx;subst hx;rfl) (by omega) (by rw[Hl.out];unfold maxLen;omega) (by rw[Hl.out];omega) (by simp;omega) (wr.heap.size+1) (by simp) ?_;intro gg cap' w' hown' hgro hat hlt);refine⟨⟨k+1,x / 256,by omega,by go_num,rfl,by omega,by omega,by rw[Hx.out];exact div256 v k, ?_, ?_⟩,by simp[intOf];omega⟩
   ·rw[Hn.out,←Hx.out,HL.out];exact Buf.app hown'
   ·exact(Hb.out.alloc hbase _).grown hgro (by simp;omega) (fun k hk=>Buf.lt Ho.out k hk)
  ·obtain rfl:k=n:=by omega
   have hcs:=Buf.string (P:=Tryz.prog) Ho.out 30 9 Tryz.underlying30 Tryz.underlying5 Tryz.underlying9;have HL:=Lh hL;clear hx hbuf hbel hL;go_wp2;go_ret;exact⟨ret_str (by rw[←HL.out];rfl),Hb.out⟩
end Go.Proofs.YtjjdjpdmgaipeaaGreat.WordRef
