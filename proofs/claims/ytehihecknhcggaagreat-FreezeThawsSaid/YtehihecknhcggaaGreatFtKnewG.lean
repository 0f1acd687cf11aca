/- KnewG, R22N, May19G, Rd22, Law22 in one text. -/
import Derived.Test.YtehihecknhcggaaGreatFtGraG
import Derived.Test.YtehihecknhcggaaGreatFtMade06
import Derived.Test.YtehihecknhcggaaGreatFtGrantG
import Derived.Test.YtehihecknhcggaaGreatFtPag
import Derived.Laws.MakeOwn
import Derived.Shelf.Bits.Mul64
import Derived.Test.YtehihecknhcggaaGreatFtEnvW
import Derived.Test.YtehihecknhcggaaGreatFtR19F
import Derived.BigQuiet
import Derived.Test.YtehihecknhcggaaGreatFtZa
set_option linter.unusedVariables false
set_option linter.unusedSimpArgs false
set_option maxRecDepth 100000
set_option maxHeartbeats 16000000
open Go.Proofs.Tryz
namespace Go.Proofs.YtehihecknhcggaaGreat.Rep
open Go.RowKit
def B(w:World)(nb m:Nat)(s:ByteArray)(i:Nat):Prop:=∃cur,w.heap[nb]? =some (.cells cur 9 (0,0))∧cur.size=m∧∀j,j<i→cur[j]? =some (.string s)
theorem B.cell{w:World}{nb m i:Nat}{s:ByteArray}(h:B w nb m s i)(j:Nat)(hj:j<i):w.cell? ⟨nb,j,none⟩=some (.string s):=by
 obtain⟨cur,hb,_,hc⟩:=h;unfold World.cell?;rw[hb];exact hc j hj
theorem B.some{w:World}{nb m i:Nat}{s:ByteArray}(h:B w nb m s i)(j:Nat)(hj:j<m):(w.cell? ⟨nb,j,none⟩).isSome=true:=by
 obtain⟨cur,hb,hz,_⟩:=h;unfold World.cell?;rw[hb]
 simp
 omega
theorem B.free{w:World}{nb m i:Nat}{s:ByteArray}(h:B w nb m s i)(j:Nat):w.frozen? ⟨nb,j,none⟩=false:=by
 obtain⟨cur,hb,_⟩:=h;unfold World.frozen?;rw[hb]
 simp
theorem B.fill{w:World}{nb m i k:Nat}{s:ByteArray}(h:B w nb m s i)(hk:i+k≤m):B (w.setCells nb i (List.replicate k (.string s))) nb m s (i+k):=by
 obtain⟨cur,hb,hz,hc⟩:=h;obtain⟨cur',h1,h2,h3,h4⟩:=heap_setCells_same nb 9 (List.replicate k (.string s)) w i cur hb (by rw[List.length_replicate];omega);refine⟨cur',h1,by omega,fun j hj=> ?_⟩;rcases Nat.lt_or_ge j i with q|q
 ·rw[h3 j q];exact hc j q
 ·have:=h4 (j - i) (by rw[List.length_replicate];omega);rw[show i+(j - i)=j by omega] at this;rw[this,List.getElem?_replicate,if_pos (by omega)]
theorem rep_one(s:ByteArray)(k:Nat):∀v,v∈List.replicate k (Value.string s)→v.oneCell'=true:=fun v hv=>by rw[List.eq_of_mem_replicate hv];rfl
theorem rep_get{s:ByteArray}{k j:Nat}{v:Value}(h:(List.replicate k (Value.string s))[j]? =some v):j<k∧v=.string s:=by
 have hj:=(List.getElem?_eq_some_iff.1 h).1;rw[List.length_replicate] at hj;rw[List.getElem?_replicate,if_pos hj] at h;exact⟨hj,(Option.some.inj h).symm⟩
theorem hsz:(Tryz.prog.info? 9).map (·.size)=some 1:=by kernel_rfl
theorem infoS:(Tryz.prog.info? 9).map (fun i=>(i.zero,i.size,i.bytes))=some (some (.string ByteArray.empty),1,16):=by kernel_rfl
theorem mul64(n:Nat)(hn:n≤65536)(w:World):Calls Tryz.prog 255 #[.int .u64 1,.int .u64 n] w fun e w'=>e=.returned (.tuple #[.int .u64 0,.int .u64 n])∧w=w':=by
 have e1:bits .and .u64 1 4294967295=1:=by decide
 have e0:bits .and .u64 0 4294967295=0:=by decide
 have e2:bits .and .u64 (n:Int) 4294967295=n:=by
  have:=Go.Proofs.Mul64.maskN n (by omega);rw[this];omega
 have d1:(n:Int) / 4294967296=0:=by omega
 have w0:IntKind.u64.wrap 0=0:=by decide
 have w1:IntKind.u64.wrap (n:Int)=n:=by rw[IntKind.wrap_u64];omega
 go_enter func255,ntmps255;go_wp2;go_ret2;exact⟨rfl,rfl⟩
theorem mul(n:Nat)(hn:n≤65536)(w:World):Calls Tryz.prog 187 #[.int .u64 1,.int .u64 n] w fun e w'=>e=.returned (.tuple #[.int .u64 0,.int .u64 n])∧w=w':=by
 have H:=Lh (mul64 n hn w);go_enter func187,ntmps187;go_wp2_with fail;refine H.out.mono ?_;rintro e w1 ⟨rfl,rfl⟩;go_wp2;go_ret2;exact⟨rfl,rfl⟩
def rel(w:World)(nb m:Nat)(s:ByteArray)(vi:Value)(wr:World):Prop:=∃i:Nat,i≤m∧(0<m→0<i)∧vi=.int .i64 i∧B wr nb m s i∧Below w.heap.size w wr
def Post(w:World)(s:ByteArray)(m:Nat)(e:Ending)(w':World):Prop:=
 ∃b,e=.returned (.slice (some ⟨b,0,none⟩) m m)∧SlV w' 9 1 (.slice (some ⟨b,0,none⟩) m m) m (List.replicate m (.string s))∧w.heap.size≤b∧b<w'.heap.size∧Below w.heap.size w w'
theorem repeat'{w:World}{g:Nat}{s:ByteArray}(hc:w.cell? ⟨g,0,none⟩=some (.string s))(cap:Nat)(m:Nat)(hm:m≤65536):
  Calls Tryz.prog 83 #[.slice (some ⟨g,0,none⟩) 1 cap,.int .i64 m] w (Post w s m):=by
 obtain⟨i0,hi0,hz0,hz1,hz2⟩:=info_parts infoS;have hgl:g<w.heap.size:=by
  unfold World.cell? at hc;cases hg:w.heap[g]? with
  |none=>rw[hg] at hc;cases hc
  |some _=>exact lQ hg
 have hms:=run_makeSlice (P:=Tryz.prog) w 154 9 i0 (.string ByteArray.empty) Tryz.underlying154 hi0 hz0 .i64 .i64 (m:Int) (m:Int) (by omega) (by omega) (by rw[hz1];omega) (by rw[hz2];omega) (by omega);rw[Int.toNat_natCast,hz1] at hms;have hb1:Below w.heap.size w (w.alloc (.cells (madeCells (Value.string ByteArray.empty).cells (m*1)) 9)):=Ba _;have hB0:B (w.alloc (.cells (madeCells (Value.string ByteArray.empty).cells (m*1)) 9)) w.heap.size m s 0:=⟨_,heap_alloc_new w _,by rw[size_madeCells];omega,fun j hj=>absurd hj (Nat.not_lt_zero _)⟩;have hc1:(w.alloc (.cells (madeCells (Value.string ByteArray.empty).cells (m*1)) 9)).cell? ⟨g,0,none⟩=some (.string s):=(World.cell?_of_block (w:=w) (Below.heap_alloc _ _ _ hgl)).trans hc;generalize hW1:w.alloc (.cells (madeCells (Value.string ByteArray.empty).cells (m*1)) 9)=w1 at*;obtain⟨nb,hnb⟩:∃q,w.heap.size=q:=⟨_,rfl⟩;have hnl:w.heap.size≤nb:=by omega
 rw[hnb] at hms hB0;have hkm:∃k,Nat.min 1 m=k:=⟨_,rfl⟩;obtain⟨k,hk⟩:=hkm;have hk1:k≤m∧k≤1∧(0<m→0<k):=by subst hk;simp only[Nat.min_def];split<;>omega
 have hcp0:∀ty dc sc,(Builtin.copy_ #[154,154] ty #[.slice (some ⟨nb,0,none⟩) m dc,.slice (some ⟨g,0,none⟩) 1 sc]).run Tryz.prog w1=.ok (goInt (List.replicate k (Value.string s)).length) (w1.setCells nb 0 (List.replicate k (.string s))):=fun ty dc sc=>
  run_copy_cells w1 _ _ ty 9 nb 0 m dc ⟨g,0,none⟩ 1 sc _ Tryz.underlying154 hsz (by rw[List.length_replicate];exact hk.symm)
   (fun j v hj=>by
    obtain⟨q1,q2⟩:=rep_get hj;obtain rfl:j=0:=by omega
    rw[Addr.add_lit,q2];exact hc1)
   (fun j hj=>by rw[Nat.zero_add];rw[List.length_replicate] at hj;exact hB0.some j (by omega)) (fun j hj=>hB0.free _) (rep_one s k)
 rw[List.length_replicate] at hcp0;have HB1:=Lh hB0;have hR0:rel w nb m s (.int .i64 k) (w1.setCells nb 0 (List.replicate k (.string s))):=⟨k,hk1.1,hk1.2.2,rfl,by have:=hB0.fill (k:=k) (by omega);rw[Nat.zero_add] at this;exact this,Mod.below hb1 (mod_setCells nb (List.replicate k (.string s)) w1 0) hb1.size fun i _ e=>by omega⟩;have HR0:=Lh hR0;have HFin:Hid (∀wr,B wr nb m s m→Below w.heap.size w wr→Post w s m (.returned (.slice (some ⟨nb,0,none⟩) m m)) wr):=Lh fun wr hB hW=>by
  obtain⟨cur,q1,q2,q3⟩:=hB;exact⟨nb,rfl,⟨by simp,.inr ⟨nb,0,m,cur,rfl,q1,Nat.le_refl _,by unfold maxLen;omega,by omega,fun j hj=>by rw[Nat.zero_add,q3 j (by omega),List.getElem?_replicate,if_pos (by omega)]⟩⟩,hnl,lQ q1,hW⟩
 generalize Post w s m=PQ at*;have HMul:=Lh fun V=>mul m hm V
 have HMs:=Lh hms;have m0:(0:Int)≤m:=by omega
 have m1:(m:Int)≤65536:=by omega
 have Hnl:=Lh hnl;have Hkk:=Lh hk;clear hms hB0 hc1 hb1 hk1 hk hR0 hc hgl hnb hnl;go_enter func83,ntmps83;go_wp2_with fail;refine(HMul.out _).mono ?_;rintro e w2 ⟨rfl,rfl⟩;have hms:=HMs.out;go_wp2_with (at_builtin;refine Sl.wpList_copy_at _ rfl _ _ 154 154 rfl _ _ rfl rfl (hcp0 _ _ _) ?_);clear hcp0 hms HMs HMul;go_loopw [8] (fun vi wr=>rel w nb m s vi wr) (fun vi _=>m - (intOf vi).toNat)
 case atStart=>exact HR0.out
 case round=>
  clear HR0 HB1;obtain⟨i,hi,hpos,rfl,hB,hbw⟩:=hrel;have HB:=Lh hB;have HW:=Lh hbw
  by_cases hin:i<m
  ·have hi0:=hpos (by omega);obtain⟨q,hq⟩:∃q,Nat.min i (m - i)=q:=⟨_,rfl⟩;have hq1:q≤m - i∧q≤i∧0<q:=by subst hq;simp only[Nat.min_def];split<;>omega
   have hBd:B wr.drew nb m s i:=hB;have hcp:∀ty dc sc,(Builtin.copy_ #[154,154] ty #[.slice (some ⟨nb,i,none⟩) (m - i) dc,.slice (some ⟨nb,0,none⟩) i sc]).run Tryz.prog wr.drew=.ok (goInt (List.replicate q (Value.string s)).length) (wr.drew.setCells nb i (List.replicate q (.string s))):=fun ty dc sc=>
    run_copy_cells wr.drew _ _ ty 9 nb i (m - i) dc ⟨nb,0,none⟩ i sc _ Tryz.underlying154 hsz (by rw[List.length_replicate];exact hq.symm)
     (fun j v hj=>by
      obtain⟨q1,q2⟩:=rep_get hj;rw[Addr.add_lit,q2,Nat.zero_add];exact hBd.cell j (by omega))
     (fun j hj=>by rw[List.length_replicate] at hj;exact hBd.some (i+j) (by omega)) (fun j hj=>hBd.free _) (rep_one s q)
   rw[List.length_replicate] at hcp;have HN:Hid (rel w nb m s (.int .i64 (i+q:Nat)) (wr.drew.setCells nb i (List.replicate q (.string s)))):=Lh ⟨i+q,by omega,fun _=>by omega,rfl,hBd.fill (by omega),Mod.below hbw.drew (mod_setCells nb (List.replicate q (.string s)) wr.drew i) hbw.size fun k _ e=>by have:=Hnl.out;omega⟩;have Hq:=Lh hq1;have iw:IntKind.i64.wrap ((i:Int)+(q:Int))=(i:Int)+q:=by rw[IntKind.wrap_i64];omega
   have hmi:¬m=i:=by omega
   have i1:(0:Int)≤i:=by omega
   have i2:(i:Int)<m:=by omega
   have i3:(i:Int)≤m:=by omega
   clear hB hbw hpos hq1 hq hBd;go_wp2_with fail;refine wp_region_held (S:=fun _=>True) (by kernel_rfl) ?_
   change wpAnyH _ _ _ _ _ _ _ _ wr.drew
   generalize wr.drew=wd at*;refine T 0 trivial ?_;refine T 1 trivial ?_;refine T 2 trivial ?_;refine T 3 trivial ?_;refine T 4 trivial ?_;refine T 5 trivial ?_;refine T 6 trivial ?_;refine H_one (i:=7) (by kernel_rfl) rfl (fun K hK=> ?_);refine Sl.step_copy_at rfl _ _ 154 154 rfl (.slice (some ⟨nb,i,none⟩) (m - i) (m - i)) (.slice (some ⟨nb,0,none⟩) i m) (by simp[Act.eval,Act.put,hmi]) (by simp[Act.eval,Act.put]) (hcp _ _ _) ?_;refine hK.out _ _ trivial (fun _=> ?_);clear hK K;try simp only[Act.put,Za,Zb,Zc,Zd,Ze,Zf]
   refine T 8 trivial ?_;refine T 9 trivial ?_;refine wpAnyH_done (by kernel_rfl) ?_ _;go_wp2;have hq2:=Hq.out;exact⟨by have:=HN.out;rw[Int.natCast_add] at this;exact this,by simp[intOf];omega⟩
  ·obtain rfl:i=m:=by omega
   have HF:=Lh (HFin.out wr hB hbw);clear hB hbw;go_wp2
   first|exact HF.out|(go_ret;exact HF.out)
end Go.Proofs.YtehihecknhcggaaGreat.Rep
namespace Go.Proofs.YtehihecknhcggaaGreat
open Go.RowKit
theorem Knl.addRow{w w1 w2:World}{a:KAt}{K:Kn}(h:Knl w a K)(hb:Below w.heap.size w w1){v bv':Value}{l:List ByteArray}(hv:SlV w1 9 1 v l.length (l.map .string))(hvn:∀k,v.ownBlock=some k→w.heap.size≤k∧k<w1.heap.size)
  (ho:SlV w2 154 1 bv' (a.rows.length+1) (a.rows++[v])) (hm:Mod (fun k=>a.bv.ownBlock=some k) w1 w2) (hbv:bv'.ownBlock=a.bv.ownBlock∨∃k,bv'.ownBlock=some k∧w1.heap.size≤k) (hbl:∀k,bv'.ownBlock=some k→k<w2.heap.size) (hs:∀s,s∈l→s.size=64):
  ∃a',Knl (w2.setCell ⟨a.kb,4,none⟩ bv') a' {K with B:=K.B++[l]}∧a'.kb=a.kb∧(∀k,a'.tag k≠0→a.tag k≠0∨w.heap.size≤k)∧a'.c=a.c∧a'.hv=a.hv∧a'.nb=a.nb∧a'.bv=bv':=by
 have hz1:=hb.size;have hz2:=hm.size;have hM:Mod (fun k=>k=a.kb∨a.bv.ownBlock=some k) w (w2.setCell ⟨a.kb,4,none⟩ bv'):=((Mod.of_below hb _).trans (hm.mono fun k _ g=>.inr g) fun i _ g=>.inl g).trans (Mod.setCell (F:=fun i=>i=a.kb) (Mod.refl _ _) ⟨a.kb,4,none⟩ (.inl rfl) bv') fun i _ g=>.inl (.inl g)
 have hkl:=lQ h.head;have hbk:a.bv.ownBlock≠some a.kb:=fun e=>by have:=h.t4 _ e;rw[h.t1] at this;omega
 have hvk:v.ownBlock≠some a.kb:=fun e=>by have:=(hvn _ e).1;omega
 have hb'k:bv'.ownBlock≠some a.kb:=fun e=>by
  rcases hbv with g|⟨k,g,gk⟩
  ·exact hbk (g▸e)
  ·rw[g] at e;cases e;omega
 have hhead:w2.heap[a.kb]? =some (.cells (a.cells K) 172 (0,0)):=(hm.block _ (Nat.lt_of_lt_of_le hkl hz1) hbk).trans ((hb.block _ hkl).trans h.head);have hnot:∀k,a.tag k≠0→a.tag k≠1→a.tag k≠4→¬(k=a.kb∨a.bv.ownBlock=some k):=fun k _ h1 h4 g=>g.elim (fun e=>h1 (e▸h.t1)) fun e=>h4 (h.t4 k e)
 obtain⟨T,hT⟩:∃T:Nat→Nat,T=fun k=>if k<w.heap.size then a.tag k else if v.ownBlock=some k then 6+a.rows.length else if bv'.ownBlock=some k then 4 else 0:=⟨_,rfl⟩
 have To:∀k,k<w.heap.size→T k=a.tag k:=fun k hk=>by rw[hT];exact if_pos hk
 have Ta:∀k,a.tag k≠0→T k=a.tag k:=fun k hk=>To k (h.lt k hk)
 have hset:=(Mod.setCell (F:=fun i=>i=a.kb) (Mod.refl _ w2) ⟨a.kb,4,none⟩ (.inl rfl) bv');refine⟨{a with bv:=bv',rows:=a.rows++[v],tag:=T}, ?_,rfl,fun k hk=> ?_,rfl,rfl,rfl,rfl⟩
 ·exact {
      head:=heap_setCell_same w2 a.kb 4 _ _ bv' hhead
      hx:=SlV.mod h.hx hM fun k hk=>hnot k (by rw[h.t5 k (.inl hk)];decide) (by rw[h.t5 k (.inl hk)];decide) (by rw[h.t5 k (.inl hk)];decide)
      chx:=SlV.mod h.chx hM fun k hk=>hnot k (by rw[h.t5 k (.inr (.inl hk))];decide) (by rw[h.t5 k (.inr (.inl hk))];decide) (by rw[h.t5 k (.inr (.inl hk))];decide)
      caps:=h.caps.mod hM fun k hk=>by
       rcases hk with g|g
       ·exact hnot k (by rw[h.t2 k g];decide) (by rw[h.t2 k g];decide) (by rw[h.t2 k g];decide)
       ·exact hnot k (by rw[h.t5 k (.inr (.inr g))];decide) (by rw[h.t5 k (.inr (.inr g))];decide) (by rw[h.t5 k (.inr (.inr g))];decide)
      nic:=KStep.nic_fit (h.nic.keep hM fun k (hk:a.tag k=3)=>hnot k (by rw[hk];decide) (by rw[hk];decide) (by rw[hk];decide)) fun k (hk:a.tag k=3) _=>(Ta k (by rw[hk];decide)).trans hk
      len:=by show(a.rows++[v]).length=(K.B++[l]).length;simp[h.len]
      outer:=by
       show SlV _ _ 1 bv' (a.rows++[v]).length (a.rows++[v])
       rw[List.length_append,List.length_singleton];exact ho.mod hset fun k hk e=>hb'k (e▸hk)
      inner:=fun i u m hu hml=>by
       have hu:(a.rows++[v])[i]? =some u:=hu;have hml:(K.B++[l])[i]? =some m:=hml;rcases Nat.lt_or_ge i a.rows.length with q|q
       ·rw[List.getElem?_append_left q] at hu;rw[List.getElem?_append_left (by rw[←h.len];exact q)] at hml;exact(h.inner i u m hu hml).mod hM fun k hk=>hnot k (by rw[h.t6 i u k hu hk];omega) (by rw[h.t6 i u k hu hk];omega) (by rw[h.t6 i u k hu hk];omega)
       ·rw[List.getElem?_append_right q] at hu;rw[List.getElem?_append_right (by rw[←h.len];exact q)] at hml;have e:i - a.rows.length=0:=by
         have:=(List.getElem?_eq_some_iff.1 hu).1;simp at this;omega
        rw[e] at hu;rw[←h.len,e] at hml;simp at hu hml;subst hu;subst hml;refine(hv.mod hm fun k hk g=> ?_).mod hset fun k hk e=>hvk (e▸hk)
        have:=(hvn k hk).1;have:=h.lt k (by rw[h.t4 k g];decide);omega
      ok:=⟨h.ok.n0,h.ok.n1,fun i m hml s hsm=>by
       have hml:(K.B++[l])[i]? =some m:=hml;rcases Nat.lt_or_ge i K.B.length with q|q
       ·rw[List.getElem?_append_left q] at hml;exact h.ok.bs i m hml s hsm
       ·rw[List.getElem?_append_right q] at hml;have e:i - K.B.length=0:=by
         have:=(List.getElem?_eq_some_iff.1 hml).1;simp at this;omega
        rw[e] at hml;simp at hml;subst hml;exact hs s hsm,h.ok.q,h.ok.hl,h.ok.g0⟩
      t1:=(Ta _ (by rw[h.t1];decide)).trans h.t1
      t2:=fun k hk=>(Ta _ (by rw[h.t2 k hk];decide)).trans (h.t2 k hk)
      t4:=fun k hk=>by
       have hk:bv'.ownBlock=some k:=hk;rcases hbv with g|⟨q,g,gk⟩
       ·have:=h.t4 k (g▸hk);exact(Ta _ (by rw[this];decide)).trans this
       ·rw[g] at hk;cases hk
        show T k=4
        rw[hT]
        show(if k<w.heap.size then _ else _)=4
        rw[if_neg (by omega),if_neg (fun e=>by have:=(hvn _ e).2;omega),if_pos g]
      t5:=fun k hk=>(Ta _ (by rw[h.t5 k hk];decide)).trans (h.t5 k hk)
      t6:=fun i u k hu hk=>by
       have hu:(a.rows++[v])[i]? =some u:=hu;rcases Nat.lt_or_ge i a.rows.length with q|q
       ·rw[List.getElem?_append_left q] at hu;exact(Ta _ (by rw[h.t6 i u k hu hk];omega)).trans (h.t6 i u k hu hk)
       ·rw[List.getElem?_append_right q] at hu;have e:i - a.rows.length=0:=by
         have:=(List.getElem?_eq_some_iff.1 hu).1;simp at this;omega
        rw[e] at hu;simp at hu;subst hu
        show T k=6+i
        rw[hT]
        show(if k<w.heap.size then _ else _)=6+i
        rw[if_neg (by have:=(hvn _ hk).1;omega),if_pos hk];omega
      lt:=fun k hk=>by
       have hk:T k≠0:=hk;have hz:(w2.setCell ⟨a.kb,4,none⟩ bv').heap.size=w2.heap.size:=by simp[World.setCell]
       rw[hz];rw[hT] at hk;have hk:(if k<w.heap.size then a.tag k else if v.ownBlock=some k then 6+a.rows.length else if bv'.ownBlock=some k then 4 else 0)≠0:=hk
       split at hk
       ·omega
       ·split at hk
        ·rename_i q;have:=(hvn _ q).2;omega
        ·split at hk
         ·rename_i q;exact hbl k q
         ·exact absurd rfl hk}
 ·have hk:T k≠0:=hk;rcases Nat.lt_or_ge k w.heap.size with q|q
  ·exact .inl (by rw[←To k q];exact hk)
  ·exact .inr q
def z64:ByteArray:=strOfNums (List.replicate 64 0)
theorem z64_size:z64.size=64:=by unfold z64;rw[strOfNums_size,List.length_replicate]
def Kn.new(hp:Int)(xs:List Int):Kn:=⟨hp,xs,fun _=>none,Ni.newS,xs.map fun n=>List.replicate n.toNat z64,0⟩
def KNewPost(w:World)(hp:Int)(xs:List Int)(e:Ending)(w':World):Prop:=
 ∃a,e=.returned (.tuple #[.pointer (some ⟨a.kb,0,none⟩),.int .i64 0])∧Knl w' a (Kn.new hp xs)∧(∀k,a.tag k≠0→w.heap.size≤k)∧Below w.heap.size w w'
def nwRel(w:World)(hp:Int)(xs:List Int)(hv:Value)(kb:Nat)(vi:Value)(wr:World):Prop:=
 ∃(i:Nat) (a:KAt),i≤xs.length∧vi=.int .i64 i∧Knl wr a ⟨hp,xs,fun _=>none,Ni.newS,(xs.take i).map fun n=>List.replicate n.toNat z64,0⟩∧a.kb=kb∧a.hv=hv∧(∀k,a.tag k≠0→w.heap.size≤k)∧Below w.heap.size w wr
theorem Knl.first{w1 w3 w5:World}{n2:Nat}{cb mb:Nat}{hvc hv2:Value}{hp:Int}{xs:List Int}(hcl:cb<n2)(hml:mb<n2)(z23:n2≤w3.heap.size)(hc:Cps w3 ⟨cb,mb,hvc,fun _=>cb,fun _=>.slice none 0 0,fun _=>.slice none 0 0⟩ hp (fun _=>none))(hs1:SlV w3 41 1 hvc xs.length (xs.map (Value.int .u32)))(ho1:∀b,hvc.ownBlock=some b→w1.heap.size≤b∧b<n2∧b≠cb∧b≠mb)(hmb:w1.heap.size≤mb)(hcb:w1.heap.size≤cb)
  (hs2:SlV w3 41 1 hv2 xs.length (xs.map (Value.int .u32))) (ho2:∀b,hv2.ownBlock=some b→n2≤b∧b<w3.heap.size)
  {w4:World} (h34:Below w3.heap.size w3 w4) (hn:Ni.Nc w5 (w4.heap.size+1) w4.heap.size (fun _=>.slice none 0 0) (.slice none 0 0) Ni.newS) (h45:Below w4.heap.size w4 w5) (hz:w5.heap.size=w4.heap.size+2) (hl:xs.length≤2000000):
  ∃a,Knl (w5.alloc (.cells #[.int .u32 hp,hv2,.pointer (some ⟨cb,0,none⟩),.pointer (some ⟨w4.heap.size+1,0,none⟩),.slice none 0 0,.int .u32 0] 172)) a ⟨hp,xs,fun _=>none,Ni.newS,[],0⟩∧a.kb=w5.heap.size∧a.hv=hv2∧∀k,a.tag k≠0→w1.heap.size≤k:=by
 have z34:=h34.size;have z45:=h45.size;have hb:Below w5.heap.size w5 (w5.alloc (.cells #[.int .u32 hp,hv2,.pointer (some ⟨cb,0,none⟩),.pointer (some ⟨w4.heap.size+1,0,none⟩),.slice none 0 0,.int .u32 0] 172)):=Ba _;have h35:=bQ h34 h45;obtain⟨T,hT⟩:∃T:Nat→Nat,T=fun k=>if k=w5.heap.size then 1 else if k=cb∨k=mb then 2 else if k=w4.heap.size∨k=w4.heap.size+1 then 3 else if hv2.ownBlock=some k∨hvc.ownBlock=some k then 5 else 0:=⟨_,rfl⟩
 have t1:T w5.heap.size=1:=by rw[hT];exact if_pos rfl
 have t2:∀k,k=cb∨k=mb→T k=2:=fun k hk=>by
  rw[hT]
  show(if _ then _ else _)=2
  rw[if_neg (by omega),if_pos hk]
 have t3:∀k,k=w4.heap.size∨k=w4.heap.size+1→T k=3:=fun k hk=>by
  rw[hT]
  show(if _ then _ else _)=3
  rw[if_neg (by omega),if_neg (by omega),if_pos hk]
 have t5:∀k,hv2.ownBlock=some k∨hvc.ownBlock=some k→T k=5:=fun k hk=>by
  have hlt:k<w3.heap.size∧k≠cb∧k≠mb:=by
   rcases hk with g|g
   ·have:=ho2 k g;omega
   ·have:=ho1 k g;omega
  rw[hT]
  show(if _ then _ else _)=5
  rw[if_neg (by omega),if_neg (by omega),if_neg (by omega),if_pos hk]
 have t0:∀k,T k≠0→w1.heap.size≤k∧k≤w5.heap.size:=fun k hk=>by
  have z12:w1.heap.size≤n2:=by omega
  rw[hT] at hk;have hk:(if k=w5.heap.size then 1 else if k=cb∨k=mb then 2 else if k=w4.heap.size∨k=w4.heap.size+1 then 3 else if hv2.ownBlock=some k∨hvc.ownBlock=some k then 5 else 0)≠0:=hk
  split at hk
  ·omega
  ·split at hk
   ·omega
   ·split at hk
    ·omega
    ·split at hk
     ·rename_i q
      rcases q with g|g
      ·have:=ho2 k g;omega
      ·have:=ho1 k g;omega
     ·exact absurd rfl hk
 refine⟨⟨w5.heap.size,⟨cb,mb,hvc,fun _=>cb,fun _=>.slice none 0 0,fun _=>.slice none 0 0⟩,w4.heap.size+1,hv2,.slice none 0 0,[],T⟩, ?_,rfl,rfl,fun k hk=>(t0 k hk).1⟩;exact {
     head:=heap_alloc_new w5 _
     hx:=(hs2.below h35).below hb
     chx:=(hs1.below h35).below hb
     caps:=(hc.below h35).below hb
     nic:=(show Ni.NicO w5 (fun k=>T k=3) (w4.heap.size+1) Ni.newS from⟨_,_,_,hn,fun k hk=>t3 k (by
      rcases hk with g|g|g|⟨x,g⟩
      ·exact .inr g
      ·exact .inl g
      ·cases g
      ·cases g)⟩).same hb
     len:=rfl
     outer:=SlV.nil _ _ _
     inner:=fun i v l hv=>by simp at hv
     ok:=⟨Int.le_refl 0,by show(0:Int)≤_;omega,fun i l hl=>by simp at hl,fun x s hs=>by simp[Ni.newS] at hs,hl,Int.le_refl 0⟩
     t1:=t1
     t2:=fun k hk=>t2 k (by
      rcases hk with g|g|⟨n,hn,_⟩
      ·exact .inl g
      ·exact .inr g
      ·cases hn)
     t4:=fun k hk=>by cases hk
     t5:=fun k hk=>t5 k (by
      rcases hk with g|g|⟨n,hn,_⟩
      ·exact .inl g
      ·exact .inr g
      ·cases hn)
     t6:=fun i v k hv=>by simp at hv
     lt:=fun k hk=>by have:=(t0 k hk).2;simp;omega}
theorem nw_round{w wd V w3 w5:World}{hp:Int}{xs:List Int}{hv:Value}{kb i n rb:Nat}{a:KAt}{o:Obj}{v5:Value}(hi:i<xs.length)(hx:xs[i]? =some (n:Int))
  (hK:Knl wd a ⟨hp,xs,fun _=>none,Ni.newS,(xs.take i).map fun n=>List.replicate n.toNat z64,0⟩) (hkb:a.kb=kb) (hhv:a.hv=hv) (ht:∀k,a.tag k≠0→w.heap.size≤k) (hbw:Below w.heap.size w wd)
  (hV:Below wd.heap.size wd V) (hR:SlV w3 9 1 (.slice (some ⟨rb,0,none⟩) n n) n (List.replicate n (.string z64))) (r0:V.heap.size≤rb) (r1:rb<w3.heap.size) (hb3:Below V.heap.size V w3)
  (q1:SlV w5 154 1 v5 (i+1) (a.rows++[.slice (some ⟨rb,0,none⟩) n n])) (q2:Mod (fun k=>a.bv.ownBlock=some k) (w3.alloc o) w5) (q3:v5.ownBlock=a.bv.ownBlock∨∃k,v5.ownBlock=some k∧(w3.alloc o).heap.size≤k):
  nwRel w hp xs hv kb (.int .i64 ((i:Int)+1)) (w5.setCell ⟨kb,4,none⟩ v5):=by
 have hlen:a.rows.length=i:=by rw[hK.len];simp;omega
 have hVs:=hV.size;have h3s:=hb3.size;have hb13:Below wd.heap.size wd (w3.alloc o):=(bQ hV hb3).alloc (by omega) _;have h13s:=hb13.size;have hz1:(w3.alloc o).heap.size=w3.heap.size+1:=by simp
 obtain⟨g,hg,hgl⟩:=q1.lt (by omega);have hrep:(List.replicate n z64).map Value.string=List.replicate n (.string z64):=by simp
 obtain⟨a',hk',p1,p2,p3,p4,p5,p6⟩:=Knl.addRow (v:=.slice (some ⟨rb,0,none⟩) n n) (l:=List.replicate n z64) hK hb13 (by
   rw[List.length_replicate,hrep];exact hR.keep fun g hg=>by cases hg;exact Below.heap_alloc _ _ _ r1) (fun k hk=>by cases hk;show wd.heap.size≤rb∧rb<(w3.alloc o).heap.size;omega) (by rw[hlen];exact q1) q2 q3 (fun k hk=>by rw[hg] at hk;cases hk;exact hgl) (fun s hs=>by rw[List.eq_of_mem_replicate hs,z64_size])
 have hw5:Below w.heap.size w w5:=Mod.below (bQ hbw hb13) q2 (by have:=hbw.size;omega) fun k _ hk=>ht k (by rw[hK.t4 k hk];decide)
 have hfin:Below w.heap.size w (w5.setCell ⟨kb,4,none⟩ v5):=Mod.below hw5 (Mod.setCell (F:=fun k=>k=kb) (Mod.refl _ _) ⟨kb,4,none⟩ (.inl rfl) v5) hw5.size fun k _ hk=>by
  subst hk;rw[←hkb];exact ht _ (by rw[hK.t1];decide)
 refine⟨i+1,a',hi,by simp, ?_,p1.trans hkb,p4▸hhv,fun k hk=> ?_,hfin⟩
 ·rw[←hkb];have e:(xs.take (i+1)).map (fun n=>List.replicate n.toNat z64)=(xs.take i).map (fun n=>List.replicate n.toNat z64)++[List.replicate n z64]:=by
   rw[List.take_add_one,hx]
   simp
  rw[e];exact hk'
 ·rcases p2 k hk with g|g
  ·exact ht k g
  ·have:=hbw.size;omega
theorem infoSS:(Tryz.prog.info? 154).map (fun i=>(i.zero,i.size,i.bytes))=some (some (.slice none 0 0),1,24):=by kernel_rfl
theorem lst_cell{w:World}{oa:Option Addr}{n oc:Nat}{xs:List Int}(h:Sl.Lst w (.slice oa n oc) xs){i:Nat}(hi:i<xs.length)(hn:n=xs.length){x:Int}(hx:xs[i]? =some x):∃g off,oa=some ⟨g,off,none⟩∧w.cell? ⟨g,off+i,none⟩=some (.int .u32 x):=by
 subst hn;rcases h.2 with⟨h0,_⟩|⟨g,off,cap,cur,hv,_⟩
 ·omega
 ·cases hv;refine⟨g,off,rfl, ?_⟩;rw[SlV.cell h i (by omega),List.getElem?_map,hx];rfl
theorem Kl.new{w:World}{a:Option Addr}{cap:Nat}{hp:Int}{xs:List Int}(h:Rs.Words w a xs)(hb0:∀x,x∈xs→0≤x∧x≤4294967295)(p0:0≤hp)(hk:Ca.hardOk hp xs=true):
  Calls Tryz.prog 21 #[.agg #[.int .u32 hp,.slice a xs.length cap]] w (KNewPost w hp xs):=by
 have hln:xs.length≤16∧∀x,x∈xs→x≤1024:=by
  unfold Ca.hardOk at hk;simp only[Bool.and_eq_true,decide_eq_true_eq,List.all_eq_true] at hk;exact⟨hk.1.2,hk.2⟩
 have hb:Below w.heap.size w (w.alloc (.cells #[.int .u32 hp,.slice a xs.length cap] 44)):=Ba _;have hblk:=heap_alloc_new w (.cells #[.int .u32 hp,.slice a xs.length cap] 44);have HNc:=Lh (Ca.new (cap:=cap) (Ca.words_below h hb) hb0 p0 hk);have HW:=Lh fun V (hV:Below w.heap.size w V)=>Cl.clone_u32 (cap:=cap) (n:=xs.length) (by simp) (Ca.words_at (Ca.words_below h hV)) (by omega) (Ca.u32_one xs)
 have HNw:=Lh fun V=>Ni.new V
 have HB:=Lh hb;have HBlk:=Lh hblk;obtain⟨c0,c1,cf⟩:=two_of hblk;have HLn:=Lh hln;have HX0:=Lh hb0;have HFin:Hid (∀V a,Knl V a (Kn.new hp xs)→(∀k,a.tag k≠0→w.heap.size≤k)→Below w.heap.size w V→KNewPost w hp xs (.returned (.tuple #[.pointer (some ⟨a.kb,0,none⟩),.int .i64 0])) V):=Lh fun V a h1 h2 h3=>⟨a,rfl,h1,h2,h3⟩
 generalize KNewPost w hp xs=PQ at*;clear hb hblk h hk hln hb0;go_enter func21,ntmps21;go_wp2_with fail;refine HNc.out.mono ?_;rintro e w2 ⟨cb,mb,hvc,rfl,hc,hs1,ho1,hmb,hcb,hb2⟩;have HC2:=Lh (And.intro hc (And.intro hs1 (And.intro ho1 (And.intro hmb hcb))));have hB2:=bQ HB.out hb2;have hbk2:=(hb2.block _ (lQ HBlk.out)).trans HBlk.out;obtain⟨c0,c1,cf⟩:=two_of hbk2;have HB2:=Lh hB2;have HBk2:=Lh hbk2;have HL2:Hid (w.heap.size<(w.alloc (.cells #[.int .u32 hp,.slice a xs.length cap] 44)).heap.size):=Lh (lQ HBlk.out);clear hc hs1 ho1 hmb hcb hb2 hB2 hbk2 HNc;go_wp2_with fail;refine(HW.out _ HB2.out).mono ?_;rintro e w2b ⟨hv,rfl,hsl,ho,hb3⟩;obtain⟨oa,oc,rfl⟩:=hsl.form;have hbk3:=(hb3.block _ (lQ HBk2.out)).trans HBk2.out;have hm3:Mod (fun i=>i=w.heap.size) w2b (w2b.setCell ⟨w.heap.size,1,none⟩ (.slice oa xs.length oc)):=Mod.setCell (F:=fun i=>i=w.heap.size) (Mod.refl _ _) ⟨w.heap.size,1,none⟩ (.inl rfl) _;have hbk4:=heap_setCell_same w2b w.heap.size 1 _ _ (.slice oa xs.length oc) hbk3;obtain⟨c0,c1,cf⟩:=two_of hbk3;have HBw3:Hid (Below w.heap.size w (w2b.setCell ⟨w.heap.size,1,none⟩ (.slice oa xs.length oc))):=Lh (Mod.below (bQ HB2.out hb3) hm3 (bQ HB2.out hb3).size fun k _ hk=>by subst hk;exact Nat.le_refl _);have hw1:=HL2.out;have HKf:Hid (∀w4 w5,Below (w2b.setCell ⟨w.heap.size,1,none⟩ (.slice oa xs.length oc)).heap.size (w2b.setCell ⟨w.heap.size,1,none⟩ (.slice oa xs.length oc)) w4→Ni.Nc w5 (w4.heap.size+1) w4.heap.size (fun _=>.slice none 0 0) (.slice none 0 0) Ni.newS→Below w4.heap.size w4 w5→w5.heap.size=w4.heap.size+2→
   ∃A,Knl (w5.alloc (.cells #[.int .u32 hp,.slice oa xs.length oc,.pointer (some ⟨cb,0,none⟩),.pointer (some ⟨w4.heap.size+1,0,none⟩),.slice none 0 0,.int .u32 0] 172)) A ⟨hp,xs,fun _=>none,Ni.newS,[],0⟩∧A.kb=w5.heap.size∧A.hv=.slice oa xs.length oc∧∀k,A.tag k≠0→(w.alloc (.cells #[.int .u32 hp,.slice a xs.length cap] 44)).heap.size≤k):=Lh fun w4 w5 h34 hn h45 hz=>by
  obtain⟨hc,hs1,ho1,hmb,hcb⟩:=HC2.out;have hcl:cb<w2.heap.size:=lQ hc.head;have hml:mb<w2.heap.size:=hc.lt (.inr (.inl rfl));refine Knl.first (w1:=w.alloc (.cells #[.int .u32 hp,.slice a xs.length cap] 44)) (n2:=w2.heap.size) hcl hml (Nat.le_trans hb3.size hm3.size) ((hc.below hb3).mod hm3 fun k hk e=> ?_) ((hs1.below hb3).mod hm3 fun k hk e=> ?_) ho1 hmb hcb (hsl.mod hm3 fun k hk e=> ?_) (fun k hk=>⟨(ho k hk).1,Nat.lt_of_lt_of_le (ho k hk).2 hm3.size⟩) h34 hn h45 hz (by have:=HLn.out.1;omega)
  ·subst e;rcases hk with(g|g|⟨n,hn,_⟩)|⟨n,hn,_⟩
   ·have g:w.heap.size=cb:=g;omega
   ·have g:w.heap.size=mb:=g;omega
   ·cases hn
   ·cases hn
  ·have:=(ho1 k hk).1;omega
  ·have:=(ho k hk).1;omega
 obtain⟨d0,d1,df⟩:=two_of hbk4;have HD3:=Lh (And.intro d0 d1);have HB4:=Lh hbk4;go_upto_region 5 with(fail);clear d0 d1 df c0 c1 cf hb3 hsl ho hbk3 hbk4 hm3 hw1;generalize w2b.setCell ⟨w.heap.size,1,none⟩ (.slice oa xs.length oc)=w3 at*;have hD:w3.drew.cell? ⟨w.heap.size,0,none⟩=some (.int .u32 hp)∧w3.drew.cell? ⟨w.heap.size,1,none⟩=some (.slice oa xs.length oc):=HD3.out;refine wp_region_held (S:=fun w'=>w'.cell? ⟨w.heap.size,0,none⟩=some (.int .u32 hp)∧w'.cell? ⟨w.heap.size,1,none⟩=some (.slice oa xs.length oc)) (by kernel_rfl) ?_
 change wpAnyH _ _ _ _ _ _ _ _ w3.drew
 generalize hwd:w3.drew=wd at*;refine T 0 hD ?_;refine T 1 hD ?_;refine H_one (i:=2) (by kernel_rfl) rfl (fun K hK=> ?_);go_simp;go_at_call 82;refine(HNw.out _).mono ?_;rintro e w5 ⟨rfl,hn5,hb5,hz5⟩;have hE:w5.cell? ⟨w.heap.size,0,none⟩=some (.int .u32 hp)∧w5.cell? ⟨w.heap.size,1,none⟩=some (.slice oa xs.length oc):=⟨cQ hb5 hD.1,cQ hb5 hD.2⟩;have HN5:=Lh (And.intro hn5 (And.intro hb5 hz5));clear hn5 hb5 hz5;refine hK.out _ _ hE (fun _=> ?_);clear hK K;try simp only[Act.put,Za,Zb,Zc,Zd,Ze,Zf]
 have hl5:w.heap.size<w5.heap.size:=by
  have h3:w.heap.size<wd.heap.size:=by rw[←hwd];exact lQ HB4.out
  exact Nat.lt_of_lt_of_le h3 HN5.out.2.1.size
 have hF:∀o,(w5.alloc o).cell? ⟨w.heap.size,0,none⟩=some (.int .u32 hp)∧(w5.alloc o).cell? ⟨w.heap.size,1,none⟩=some (.slice oa xs.length oc):=fun o=>⟨(World.cell?_of_block (w:=w5) (Below.heap_alloc _ _ _ hl5)).trans hE.1,(World.cell?_of_block (w:=w5) (Below.heap_alloc _ _ _ hl5)).trans hE.2⟩
 refine T 3 hE ?_;refine H_one (i:=4) (by kernel_rfl) rfl (fun K hK=> ?_);go_simp;refine hK.out _ _ (hF _) (fun _=> ?_);clear hK K;try simp only[Act.put,Za,Zb,Zc,Zd,Ze,Zf]
 refine T 5 (hF _) ?_;refine wpAnyH_done (by kernel_rfl) ?_ _;obtain⟨A,hA,hkb,hhv,htg⟩:=HKf.out wd _ (by rw[←hwd];exact Br.drew) HN5.out.1 HN5.out.2.1 HN5.out.2.2;have hbd:Below w.heap.size w wd:=by rw[←hwd];exact HBw3.out.drew
 have hb5:Below w.heap.size w w5:=bQ hbd HN5.out.2.1;have hw6:=hb5.alloc hb5.size (.cells #[.int .u32 hp,.slice oa xs.length oc,.pointer (some ⟨cb,0,none⟩),.pointer (some ⟨wd.heap.size+1,0,none⟩),.slice none 0 0,.int .u32 0] 172);have hbk6:(w5.alloc (.cells #[.int .u32 hp,.slice oa xs.length oc,.pointer (some ⟨cb,0,none⟩),.pointer (some ⟨wd.heap.size+1,0,none⟩),.slice none 0 0,.int .u32 0] 172)).heap[w.heap.size]? =some (.cells #[.int .u32 hp,.slice oa xs.length oc] 44):=by
  have h3:=HB4.out;have hl3:w.heap.size<wd.heap.size:=by rw[←hwd];exact lQ HB4.out
  refine(Below.heap_alloc _ _ _ (Nat.lt_of_lt_of_le hl3 HN5.out.2.1.size)).trans ((HN5.out.2.1.block _ hl3).trans ?_);rw[←hwd];exact HB4.out
 obtain⟨c0,c1,cf⟩:=two_of hbk6;have HA0:Hid (nwRel w hp xs (.slice oa xs.length oc) w5.heap.size (.int .i64 0) (w5.alloc (.cells #[.int .u32 hp,.slice oa xs.length oc,.pointer (some ⟨cb,0,none⟩),.pointer (some ⟨wd.heap.size+1,0,none⟩),.slice none 0 0,.int .u32 0] 172))):=Lh ⟨0,A,by omega,rfl,hA,hkb,hhv,fun k hk=>Nat.le_trans (Nat.le_of_lt HL2.out) (htg k hk),hw6⟩;clear hbk6 hw6 hA hkb hhv htg hb5 hbd hD hE hF hl5 HN5 HKf HB4 HD3 HBw3 HBk2 HB2 HC2 HW HNw;generalize w5.alloc (.cells #[.int .u32 hp,.slice oa xs.length oc,.pointer (some ⟨cb,0,none⟩),.pointer (some ⟨wd.heap.size+1,0,none⟩),.slice none 0 0,.int .u32 0] 172)=w6 at*;generalize w5.heap.size=kb at*;clear hwd w3;have HRp:Hid (∀(V:World) (g n:Nat),n≤1024→V.cell? ⟨g,0,none⟩=some (.string z64)→Calls Tryz.prog 83 #[.slice (some ⟨g,0,none⟩) 1 1,.int .i64 n] V (Rep.Post V z64 n)):=Lh fun V g n hn hc=>Rep.repeat' hc 1 n (by omega)
 obtain⟨i0,Hi⟩:=info_parts infoSS;have Hi:=Lh Hi;have hmk:∀W:World,(Instr.makeSlice 85 (.int .i64 64) (.int .i64 64)).run Tryz.prog W=.ok (.slice (some ⟨W.heap.size,0,none⟩) 64 64) (W.alloc (.cells (List.replicate 64 (Value.int .u8 0)).toArray 5)):=fun W=>run_makeBytes 64 (by decide) W
 have hms:∀W:World,(convert 85 9 (.slice (some ⟨W.heap.size,0,none⟩) 64 64)).run Tryz.prog (W.alloc (.cells (List.replicate 64 (Value.int .u8 0)).toArray 5))=.ok (.string z64) (W.alloc (.cells (List.replicate 64 (Value.int .u8 0)).toArray 5)):=fun W=>made_str 64 W
 obtain⟨arr,harr⟩:∃arr,arr=(List.replicate 64 (Value.int .u8 0)).toArray:=⟨_,rfl⟩;rw[←harr] at hmk hms;have Hmk:=Lh hmk;have Hms:=Lh hms;clear harr hmk hms;go_wp2;clear c0 c1 cf;go_loopw [8,29] (fun _ vi wr=>nwRel w hp xs (.slice oa xs.length oc) kb vi wr) (fun _ vi _=>xs.length - (intOf vi).toNat)
 case atStart=>exact HA0.out
 case round=>
  clear HA0;obtain⟨i,a',hi,rfl,hK,hkb,hhv,htg,hbw⟩:=hrel
  by_cases hin:i<xs.length
  ·obtain⟨n,hn⟩:∃n:Nat,xs[i]=(n:Int):=⟨xs[i].toNat,by have:=(HX0.out _ (List.getElem_mem hin)).1;omega⟩;have hx:xs[i]? =some (n:Int):=by rw[Zg hin,hn]
   have hn1:n≤1024:=by have:=HLn.out.2 _ (List.getElem_mem hin);omega
   have hn0:(0:Int)≤n:=by omega
   have hn2:(n:Int)≤1024:=by omega
   have hwn:IntKind.i64.wrap (n:Int)=n:=by rw[IntKind.wrap_i64];omega
   have hl16:xs.length≤16:=HLn.out.1;have hh:Sl.Lst wr (.slice oa xs.length oc) xs:=hhv▸hK.hx;obtain⟨g,off,rfl,hc⟩:=lst_cell hh hin rfl hx;have HK:=Lh hK;have HBw:=Lh hbw;have HT:=Lh htg;have hbe:=hK.outer.form;have hlen:a'.rows.length=i:=by rw[hK.len];simp;omega
   obtain⟨ba,bc,hbv⟩:=hbe;rw[hlen] at hbv;have hD:wr.drew.cell? ⟨kb,4,none⟩=some (.slice ba i bc):=by rw[←hkb,←hbv];exact hK.cell 4 _ rfl
   have HD:=Lh hD;have Hkb:=Lh hkb;have Hhv:=Lh hhv;have Hbv:=Lh hbv;have Hlen:=Lh hlen;have Hx:=Lh hx;clear hK hbw htg hh hD hkb hhv hbv hlen hx hi;have HS:Hid (∀V,Below wr.drew.heap.size wr.drew V→V.cell? ⟨kb,4,none⟩=some (.slice ba i bc)):=Lh fun V h=>cQ h HD.out
   have HA1:Hid (∀o,Below wr.drew.heap.size wr.drew (wr.drew.alloc o)):=Lh fun o=>Br.alloc (Nat.le_refl _) o
   have HA2:Hid (∀o o',Below wr.drew.heap.size wr.drew ((wr.drew.alloc o).alloc o')):=Lh fun o o'=>(HA1.out o).alloc (HA1.out o).size o'
   have HZ:Hid (((wr.drew.alloc (.cells arr 5)).alloc (.cells #[.string z64] 9)).cell? ⟨wr.drew.heap.size+1,0,none⟩=some (.string z64)):=Lh (by
    have h:=heap_alloc_new (wr.drew.alloc (.cells arr 5)) (.cells #[.string z64] 9);rw[show(wr.drew.alloc (.cells arr 5)).heap.size=wr.drew.heap.size+1 by simp] at h;unfold World.cell?;rw[h];rfl)
   have HOut:Hid (∀V,Below wr.drew.heap.size wr.drew V→SlV V 154 1 (.slice ba i bc) i a'.rows):=Lh fun V h=>by
    have:=HK.out.outer;rw[Hbv.out,Hlen.out] at this;exact SlV.below (w:=wr.drew) this h
   have HKb:Hid (∀(W:World) (o:Obj) (W5:World),Below wr.drew.heap.size wr.drew (W.alloc o)→Mod (fun k=>(Value.slice ba i bc).ownBlock=some k) (W.alloc o) W5→W5.cell? ⟨kb,4,none⟩=some (.slice ba i bc)∧W5.frozen? ⟨kb,4,none⟩=false):=Lh fun W o W5 hb hm=>by
    have hk:=HK.out.head;rw[Hkb.out] at hk;have hkl:kb<wr.drew.heap.size:=lQ (w:=wr.drew) hk;have hne:(Value.slice ba i bc).ownBlock≠some kb:=fun e=>by
     have:=HK.out.t4 kb (by rw[Hbv.out];exact e);rw[←Hkb.out,HK.out.t1] at this;omega
    have hh:=(hm.block kb (Nat.lt_of_lt_of_le hkl hb.size) hne).trans ((hb.block kb hkl).trans hk);refine⟨?_, ?_⟩
    ·rw[←Hbv.out];unfold World.cell?;rw[hh];rfl
    ·unfold World.frozen?;rw[hh]
     simp
   have hhR:Hid (∀(V w3:World) (o:Obj) (w5:World) (rb:Nat) (v5:Value),Below wr.drew.heap.size wr.drew V→SlV w3 9 1 (.slice (some ⟨rb,0,none⟩) n n) n (List.replicate n (.string z64))→V.heap.size≤rb→rb<w3.heap.size→Below V.heap.size V w3→
     SlV w5 154 1 v5 (i+1) (a'.rows++[.slice (some ⟨rb,0,none⟩) n n])→Mod (fun k=>(Value.slice ba i bc).ownBlock=some k) (w3.alloc o) w5→(v5.ownBlock=(Value.slice ba i bc).ownBlock∨∃k,v5.ownBlock=some k∧(w3.alloc o).heap.size≤k)→nwRel w hp xs (.slice (some ⟨g,off,none⟩) xs.length oc) kb (.int .i64 ((i:Int)+1)) (w5.setCell ⟨kb,4,none⟩ v5)):=Lh fun V w3 o w5 rb v5 hV hR r0 r1 hb3 q1 q2 q3=>
    nw_round hin Hx.out (HK.out.below Br.drew) Hkb.out Hhv.out HT.out HBw.out.drew hV hR r0 r1 hb3 q1 (by rw[Hbv.out];exact q2) (by rw[Hbv.out];exact q3)
   have hms:=Hms.out;have hmk:=Hmk.out;clear HK HBw HT Hkb Hhv Hbv Hlen Hx;go_upto_region 9 with(fail);refine wp_region_E (fun w'=>w'.cell? ⟨kb,4,none⟩=some (.slice ba i bc)) 15 (by kernel_rfl) ?_
   change AnyE _ _ _ _ _ _ _ _ _ wr.drew
   generalize hwd:wr.drew=wd at*;refine LT 0 HD.out ?_;refine LT 1 HD.out ?_;refine LT 2 HD.out ?_;refine LT 3 HD.out ?_;refine LT 4 HD.out ?_;refine LT 8 HD.out ?_;refine LT 9 HD.out ?_;refine LU 5 fun K hK=> ?_
   go_simp;refine LV hK (fun _=>(HS.out _ (HA1.out _))) ?_;clear hK K;refine LU 6 fun K hK=> ?_
   go_simp;refine LV hK (fun _=>(HS.out _ (HA1.out _))) ?_;clear hK K;refine LU 7 fun K hK=> ?_
   go_simp;refine LV hK (fun _=>(HS.out _ (HA2.out _ _))) ?_;clear hK K;clear hms;refine LU 10 fun K hK=> ?_
   go_simp;go_at_call 83;refine(HRp.out _ _ n hn1 HZ.out).mono ?_;rintro e w3 ⟨rb,rfl,hsl,hr0,hr1,hb3⟩;have HR3:=Lh (And.intro hsl (And.intro hr0 (And.intro hr1 hb3)));have HB3:Hid (Below wd.heap.size wd w3):=Lh (bQ (HA2.out _ _) hb3);have HA3:Hid (∀o,Below wd.heap.size wd (w3.alloc o)):=Lh fun o=>HB3.out.alloc HB3.out.size o
   clear hsl hr0 hr1 hb3;refine LV hK (fun _=>(HS.out _ HB3.out)) ?_;clear hK K;refine LU 11 fun K hK=> ?_
   go_simp;refine LV hK (fun _=>(HS.out _ (HA3.out _))) ?_;clear hK K;refine LU 12 fun K hK=> ?_
   refine step_append_slv rfl _ _ _ rfl 154 i0 (.slice none 0 0) 1 24 Tryz.underlying74 Hi.out.1 Hi.out.2.1 Hi.out.2.2.1 Hi.out.2.2.2 rfl (by omega) (.slice ba i bc) i a'.rows rfl (HOut.out _ (HA3.out _)) ⟨w3.heap.size,0,none⟩ 1 1 [.slice (some ⟨rb,0,none⟩) n n] rfl (by omega) rfl (World.news_of_block (cs:= #[.slice (some ⟨rb,0,none⟩) n n]) (t:=154) (fr:=(0,0)) (heap_alloc_new w3 _)) (fun x hx=>by simp at hx;subst hx;rfl) (by unfold maxLen;omega) (by omega) ?_;intro v5 w5 q1 q2 q3;have HA5:=Lh (And.intro q1 (And.intro q2 q3));have hS5:=HKb.out _ _ _ (HA3.out _) q2;obtain⟨hS5a,hS5f⟩:=hS5;clear q1 q2 q3;obtain⟨va,vc,rfl⟩:=HA5.out.1.form;refine LV hK (fun _=>hS5a) ?_;clear hK K;refine LU 13 fun K hK=> ?_
   go_simp;refine LV hK (fun _=>hS5a) ?_;clear hK K;refine LT 14 hS5a ?_;refine LU 15 fun K hK=> ?_
   go_simp;refine hK.out _ _ (fun e=>absurd rfl e) (fun _=> ?_);clear hK K;try simp only[Act.put,Za,Zb,Zc,Zd,Ze,Zf]
   refine E_done (by kernel_rfl) ?_ _;have hfin:=hhR.out _ _ _ _ _ _ (HA2.out _ _) HR3.out.1 HR3.out.2.1 HR3.out.2.2.1 HR3.out.2.2.2 HA5.out.1 HA5.out.2.1 HA5.out.2.2;generalize w5.setCell ⟨kb,4,none⟩ (.slice va (i+1) vc)=w7 at*;clear HA5 HR3 hhR HKb HOut HZ HA2 HA1 HS HD hS5a hS5f;go_wp2;refine⟨hfin,by simp[intOf];omega⟩
  ·have hx:xs.take i=xs:=List.take_of_length_le (by omega);rw[hx] at hK;have hend:=HFin.out wr a' hK htg hbw;rw[hkb] at hend;clear HFin hK htg hbw;go_wp2;exact hend
theorem Kl.new_bad{w:World}{a:Option Addr}{cap:Nat}{hp:Int}{xs:List Int}(h:Rs.Words w a xs)(hb0:∀x,x∈xs→0≤x∧x≤4294967295)(p0:0≤hp)(hk:Ca.hardOk hp xs=false):
  Calls Tryz.prog 21 #[.agg #[.int .u32 hp,.slice a xs.length cap]] w fun e w'=>e=.returned (.tuple #[.pointer none,.int .i64 2])∧Below w.heap.size w w':=by
 have hb:Below w.heap.size w (w.alloc (.cells #[.int .u32 hp,.slice a xs.length cap] 44)):=Ba _;have HNc:=Lh (Ca.new_bad (cap:=cap) (Ca.words_below h hb) hb0 p0 hk);have HB:=Lh hb;clear hb h hk hb0;go_enter func21,ntmps21;go_wp2_with fail;refine HNc.out.mono ?_;rintro e w2 ⟨rfl,hb2⟩;have HB2:=Lh (bQ HB.out hb2);clear hb2 HNc;go_wp2_with fail;exact bodyPost_ret (v:=.tuple #[.pointer none,.int .i64 2]) (by simp[results,Tryz.results21,go_sem, *]) rfl ⟨rfl,HB2.out⟩
theorem Rkl.addRow{w w1 w2:World}{a:RkAt}{K:Kn}(h:Rkl w a K)(hb:Below w.heap.size w w1){v bv':Value}{l:List ByteArray}(hv:SlV w1 9 1 v l.length (l.map .string))(hvn:∀k,v.ownBlock=some k→w.heap.size≤k∧k<w1.heap.size)(h0:K.B.length=0→a.bv=.slice none 0 0)
  (ho:SlV w2 154 1 bv' (a.rows.length+1) (a.rows++[v])) (hm:Mod (fun k=>a.bv.ownBlock=some k) w1 w2) (hbv:bv'.ownBlock=a.bv.ownBlock∨∃k,bv'.ownBlock=some k∧w1.heap.size≤k) (hbl:∀k,bv'.ownBlock=some k→k<w2.heap.size) (hs:∀s,s∈l→s.size=64) (hl:l.length≤1024) (hB:K.B.length<16) (hx2:RwV (w2.setCell ⟨a.kb,2,none⟩ bv') 1 a.c.hv K.hx.length (K.hx.map (Value.int .u32))):
  ∃a',Rkl (w2.setCell ⟨a.kb,2,none⟩ bv') a' {K with B:=K.B++[l]}∧a'.kb=a.kb∧a'.bv=bv'∧a'.c=a.c∧a'.n=a.n∧∀k,a'.tag k≠0→a.tag k≠0∧a'.tag k=a.tag k∨w.heap.size≤k∧a'.tag k=5:=by
 have hz1:=hb.size;have hz2:=hm.size;have hzs:(w2.setCell ⟨a.kb,2,none⟩ bv').heap.size=w2.heap.size:=by simp[World.setCell]
 -- what the old outer slice's block may be
 have hty:∀k,a.bv.ownBlock=some k→∃cur,w1.heap[k]? =some (.cells cur 154 (0,0)):=fun k hk=>by
  rcases h.outer.2 with⟨e,_⟩|⟨g,off,cap,cur,e,hg,_⟩
  ·rw[h0 (by rw[←h.len];exact e)] at hk;cases hk
  ·rw[e] at hk;cases hk;exact⟨cur,(hb.block _ (lQ hg)).trans hg⟩
 have hset:=(Mod.setCell (F:=fun i=>i=a.kb) (Mod.refl _ w2) ⟨a.kb,2,none⟩ (.inl rfl) bv');have hM:Mod (fun k=>k=a.kb∨a.bv.ownBlock=some k) w (w2.setCell ⟨a.kb,2,none⟩ bv'):=((Mod.of_below hb _).trans (hm.mono fun k _ g=>.inr g) fun i _ g=>.inl g).trans hset fun i _ g=>.inl (.inl g)
 have hkl:=lQ h.head;have hbk:a.bv.ownBlock≠some a.kb:=fun e=>by have:=h.t5 _ (.inr (.inl e));rw[h.t1] at this;omega
 have hvk:v.ownBlock≠some a.kb:=fun e=>by have:=(hvn _ e).1;omega
 have hb'k:bv'.ownBlock≠some a.kb:=fun e=>by
  rcases hbv with g|⟨k,g,gk⟩
  ·exact hbk (g▸e)
  ·rw[g] at e;cases e;omega
 have hhead:=(hm.block _ (Nat.lt_of_lt_of_le hkl hz1) hbk).trans ((hb.block _ hkl).trans h.head);have keepS:∀ {ty:TypeId} {s n:Nat} {u:Value} {xs:List Value},SlV w1 ty s u n xs→154≠ty→(∀k,u.ownBlock=some k→k≠a.kb)→SlV (w2.setCell ⟨a.kb,2,none⟩ bv') ty s u n xs:=fun hu hne hk=>by
  refine SlV.mod ?_ hset fun k g e=>hk k g e
  refine⟨hu.1, ?_⟩;rcases hu.2 with g|⟨g,off,cap,cur,rfl,hgg,rest⟩
  ·exact .inl g
  ·refine .inr ⟨g,off,cap,cur,rfl,(hm.block _ (lQ hgg) fun e=> ?_).trans hgg,rest⟩;obtain⟨cur',hc⟩:=hty g e;rw[hgg] at hc;cases hc;exact hne rfl
 have hnot:∀k,a.tag k≠1→a.tag k≠5→¬(k=a.kb∨a.bv.ownBlock=some k):=fun k h1 h5 g=>g.elim (fun e=>h1 (e▸h.t1)) fun e=>h5 (h.t5 k (.inr (.inl e)))
 have ne1:∀k,a.tag k≠1→k≠a.kb:=fun k h1 e=>h1 (e▸h.t1)
 have old:∀k,a.tag k≠0→KStep.grow w (w2.setCell ⟨a.kb,2,none⟩ bv') a.tag 5 k=a.tag k:=fun k hk=>KStep.grow_old (h.lt k hk)
 refine⟨{a with bv:=bv',rows:=a.rows++[v],tag:=KStep.grow w (w2.setCell ⟨a.kb,2,none⟩ bv') a.tag 5}, ?_,rfl,rfl,rfl,rfl,fun k hk=> ?_⟩
 ·exact {
      head:=heap_setCell_same w2 a.kb 2 _ _ bv' hhead
      hx:=hx2
      caps:=h.caps.mod hM fun k hk=>hnot k (by rw[h.t2 k hk];decide) (by rw[h.t2 k hk];decide)
      nic:=h.nic.mod hM fun k hk=>hnot k (by rw[h.t3 k hk];decide) (by rw[h.t3 k hk];decide)
      len:=by show(a.rows++[v]).length=(K.B++[l]).length;simp[h.len]
      outer:=by
       show SlV _ _ 1 bv' (a.rows++[v]).length (a.rows++[v])
       rw[List.length_append,List.length_singleton];exact ho.mod hset fun k hk e=>hb'k (e▸hk)
      inner:=fun i u m hu hml=>by
       have hu:(a.rows++[v])[i]? =some u:=hu;have hml:(K.B++[l])[i]? =some m:=hml;rcases Nat.lt_or_ge i a.rows.length with q|q
       ·rw[List.getElem?_append_left q] at hu;rw[List.getElem?_append_left (by rw[←h.len];exact q)] at hml;exact keepS ((h.inner i u m hu hml).below hb) (by decide) fun k hk=>ne1 k (by rw[h.t5 k (.inr (.inr ⟨u,List.mem_of_getElem? hu,hk⟩))];decide)
       ·rw[List.getElem?_append_right q] at hu;rw[List.getElem?_append_right (by rw[←h.len];exact q)] at hml;have e:i - a.rows.length=0:=by
         have:=(List.getElem?_eq_some_iff.1 hu).1;simp at this;omega
        rw[e] at hu;rw[←h.len,e] at hml;simp at hu hml;subst hu;subst hml;exact keepS hv (by decide) fun k hk e=>by have:=(hvn k hk).1;omega
      bl:=⟨by show(K.B++[l]).length≤16;simp;omega,fun i m hml=>by
       have hml:(K.B++[l])[i]? =some m:=hml;rcases Nat.lt_or_ge i K.B.length with q|q
       ·rw[List.getElem?_append_left q] at hml;exact h.bl.2 i m hml
       ·rw[List.getElem?_append_right q] at hml;have e:i - K.B.length=0:=by
         have:=(List.getElem?_eq_some_iff.1 hml).1;simp at this;omega
        rw[e] at hml;simp at hml;subst hml;exact hl⟩
      ok:=⟨h.ok.n0,h.ok.n1,fun i m hml s hsm=>by
       have hml:(K.B++[l])[i]? =some m:=hml;rcases Nat.lt_or_ge i K.B.length with q|q
       ·rw[List.getElem?_append_left q] at hml;exact h.ok.bs i m hml s hsm
       ·rw[List.getElem?_append_right q] at hml;have e:i - K.B.length=0:=by
         have:=(List.getElem?_eq_some_iff.1 hml).1;simp at this;omega
        rw[e] at hml;simp at hml;subst hml;exact hs s hsm,h.ok.q,h.ok.hl,h.ok.g0⟩
      t1:=(old _ (by rw[h.t1];decide)).trans h.t1
      t2:=fun k hk=>(old _ (by rw[h.t2 k hk];decide)).trans (h.t2 k hk)
      t3:=fun k hk=>(old _ (by rw[h.t3 k hk];decide)).trans (h.t3 k hk)
      t5:=fun k hk=>by
       have new:w.heap.size≤k→k<w2.heap.size→KStep.grow w (w2.setCell ⟨a.kb,2,none⟩ bv') a.tag 5 k=5:=fun q1 q2=>by unfold KStep.grow;rw[if_neg (by omega),if_pos (by omega)]
       have was:((K.hx.length≠0∧a.c.hv.ownBlock=some k)∨a.bv.ownBlock=some k∨∃u,u∈a.rows∧u.ownBlock=some k)→KStep.grow w (w2.setCell ⟨a.kb,2,none⟩ bv') a.tag 5 k=5:=fun g=>(old _ (by rw[h.t5 k g];decide)).trans (h.t5 k g)
       show KStep.grow w (w2.setCell ⟨a.kb,2,none⟩ bv') a.tag 5 k=5
       rcases hk with g|g|⟨u,hu,g⟩
       ·exact was (.inl g)
       ·have g:bv'.ownBlock=some k:=g;rcases hbv with q|⟨q,q1,q2⟩
        ·exact was (.inr (.inl (q▸g)))
        ·rw[q1] at g;cases g;exact new (by omega) (hbl _ q1)
       ·rcases List.mem_append.1 hu with q|q
        ·exact was (.inr (.inr ⟨u,q,g⟩))
        ·simp at q;subst q;have:=hvn k g;exact new this.1 (by omega)
      lt:=fun k hk=>by
       have hk:KStep.grow w (w2.setCell ⟨a.kb,2,none⟩ bv') a.tag 5 k≠0:=hk;unfold KStep.grow at hk
       split at hk
       ·omega
       ·split at hk
        ·assumption
        ·exact absurd rfl hk}
 ·have hk:KStep.grow w (w2.setCell ⟨a.kb,2,none⟩ bv') a.tag 5 k≠0:=hk;rcases Nat.lt_or_ge k w.heap.size with q|q
  ·rw[KStep.grow_old q] at hk;exact .inl ⟨hk,KStep.grow_old q⟩
  ·refine .inr ⟨q, ?_⟩
   show KStep.grow w (w2.setCell ⟨a.kb,2,none⟩ bv') a.tag 5 k=5
   unfold KStep.grow at hk⊢;rw[if_neg (by omega)] at hk⊢
   split at hk
   ·rename_i z;rw[if_pos z]
   ·exact absurd rfl hk
theorem Rkl.first{w:World}{cb nb kb:Nat}{hp:Int}{xs:List Int}{hv:Value}(hc:w.heap[cb]? =some (.cells #[.int .u32 hp,hv,.slice none 0 0] 176 (0,0)))(hn:w.heap[nb]? =some (.cells #[.slice none 0 0,.slice none 0 0,.int .i64 0] 179 (0,0)))(hkk:w.heap[kb]? =some (.cells #[.pointer (some ⟨cb,0,none⟩),.pointer (some ⟨nb,0,none⟩),.slice none 0 0,.int .u32 0] 76 (0,0)))
  (hx:RwV w 1 hv xs.length (xs.map (Value.int .u32))) (hh:Ca.hardOk hp xs=true) (p0:0≤hp) (hvb:∀k,xs.length≠0→hv.ownBlock=some k→k<w.heap.size∧k≠cb∧k≠nb∧k≠kb):
  ∃a,Rkl w a ⟨hp,xs,fun _=>none,Ni.newS,[],0⟩∧a.kb=kb∧a.c.hv=hv∧a.bv=.slice none 0 0∧∀k,a.tag k≠0→(k=cb∨k=nb∨k=kb)∨(xs.length≠0∧hv.ownBlock=some k)∧a.tag k=5:=by
 have n1:cb≠nb:=fun e=>by rw[e,hn] at hc;have:=cells_ty hc;exact absurd this (by decide)
 have n2:cb≠kb:=fun e=>by rw[e,hkk] at hc;have:=cells_ty hc;exact absurd this (by decide)
 have n3:nb≠kb:=fun e=>by rw[e,hkk] at hn;have:=cells_ty hn;exact absurd this (by decide)
 have hln:hp≤4096∧xs.length≤16:=by
  unfold Ca.hardOk at hh;simp only[Bool.and_eq_true,decide_eq_true_eq] at hh;exact hh.1
 obtain⟨T,hT⟩:∃T:Nat→Nat,T=fun k=>if k=kb then 1 else if k=cb then 2 else if k=nb then 3 else if xs.length≠0∧hv.ownBlock=some k then 5 else 0:=⟨_,rfl⟩
 have t1:T kb=1:=by rw[hT];exact if_pos rfl
 have t2:T cb=2:=by rw[hT];show(if cb=kb then 1 else _)=2;rw[if_neg n2,if_pos rfl]
 have t3:T nb=3:=by rw[hT];show(if nb=kb then 1 else _)=3;rw[if_neg n3,if_neg (fun e=>n1 e.symm),if_pos rfl]
 have t5:∀k,xs.length≠0∧hv.ownBlock=some k→T k=5:=fun k g=>by
  have:=hvb k g.1 g.2;rw[hT]
  show(if k=kb then 1 else _)=5
  rw[if_neg this.2.2.2,if_neg this.2.1,if_neg this.2.2.1,if_pos g]
 have t0:∀k,T k≠0→(k=cb∨k=nb∨k=kb)∨(xs.length≠0∧hv.ownBlock=some k)∧T k=5:=fun k hk=>by
  by_cases e1:k=kb
  ·exact .inl (.inr (.inr e1))
  by_cases e2:k=cb
  ·exact .inl (.inl e2)
  by_cases e3:k=nb
  ·exact .inl (.inr (.inl e3))
  by_cases e4:xs.length≠0∧hv.ownBlock=some k
  ·exact .inr ⟨e4,t5 k e4⟩
  ·rw[hT] at hk;have hk:(if k=kb then 1 else _)≠0:=hk;rw[if_neg e1,if_neg e2,if_neg e3,if_neg e4] at hk;exact absurd rfl hk
 refine⟨⟨kb,⟨cb,hv,.slice none 0 0,[]⟩,⟨nb,.slice none 0 0,.slice none 0 0,[]⟩,.slice none 0 0,[],T⟩, ?_,rfl,rfl,rfl,t0⟩;exact {
     head:=hkk
     hx:=hx
     caps:= {head:=hc,row:=SlV.nil _ _ _,mns:=fun x hx=>(by cases hx),can:=rfl,ok:=⟨fun n g hg=>(by cases hg),fun n hn=>(by cases hn),p0,fun n g hg=>(by cases hg),hln.1⟩}
     nic:= {head:=hn,row:=SlV.nil _ _ _,out:=SlV.nil _ _ _,q:=fun x=>rfl,pt:=fun y hy=>(by cases hy),q8:=fun x=>Nat.zero_le _,lr:=fun k hk=>(by cases hk),sr:=fun k hk=>(by cases hk)}
     len:=rfl
     outer:=SlV.nil _ _ _
     inner:=fun i v l hv=>by simp at hv
     bl:=⟨Nat.zero_le _,fun i l hl=>by simp at hl⟩
     ok:=⟨Int.le_refl 0,by show(0:Int)≤_;omega,fun i l hl=>by simp at hl,fun x s hs=>by simp[Ni.newS] at hs,by show xs.length≤_;omega,Int.le_refl 0⟩
     t1:=t1
     t2:=fun k hk=>by
      rcases hk with(g|g)|⟨x,hx,_⟩
      ·have g:k=cb:=g;subst g;exact t2
      ·cases g
      ·cases hx
     t3:=fun k hk=>by
      rcases hk with g|g|g
      ·have g:k=nb:=g;subst g;exact t3
      ·cases g
      ·cases g
     t5:=fun k hk=>by
      rcases hk with g|g|⟨x,hx,_⟩
      ·exact t5 k g
      ·cases g
      ·cases hx
     lt:=fun k hk=>by
      rcases t0 k hk with(g|g|g)|⟨g,_⟩
      ·rw[g];exact lQ hc
      ·rw[g];exact lQ hn
      ·rw[g];exact lQ hkk
      ·exact(hvb k g.1 g.2).1}
namespace Rk
def NewP(w:World)(hp:Int)(xs:List Int)(hv:Value)(e:Ending)(w':World):Prop:=
 ∃b,e=.returned (.pointer (some ⟨b.kb,0,none⟩))∧Rkl w' b (Kn.new hp xs)∧b.c.hv=hv∧(∀k,b.tag k≠0→w.heap.size≤k∨b.tag k=5∧xs.length≠0∧hv.ownBlock=some k)∧Below w.heap.size w w'
def nwO(w:World)(hp:Int)(xs:List Int)(hv:Value)(kb:Nat)(vi:Value)(wr:World):Prop:=
 ∃(i:Nat) (b:RkAt),i≤xs.length∧vi=.int .i64 i∧Rkl wr b ⟨hp,xs,fun _=>none,Ni.newS,(xs.take i).map fun n=>List.replicate n.toNat z64,0⟩∧b.kb=kb∧b.c.hv=hv∧(i=0→b.bv=.slice none 0 0)∧(∀k,b.tag k≠0→w.heap.size<k∨k<w.heap.size∧b.tag k=5∧xs.length≠0∧hv.ownBlock=some k)∧(∀k,b.bv.ownBlock=some k→w.heap.size<k)∧Below w.heap.size w wr∧wr.heap[w.heap.size]? =some (.cells #[.int .u32 hp,hv] 44 (0,0))
def nwI(wo:World)(x:Nat)(vl vn:Value)(wr:World):Prop:=
 ∃n:Nat,n≤x∧vn=.int .u32 n∧SlV wr 9 1 vl n (List.replicate n (.string z64))∧(∀k,vl.ownBlock=some k→wo.heap.size≤k∧k<wr.heap.size)∧Below wo.heap.size wo wr
theorem new{w:World}{a:Option Addr}{cap:Nat}{hp:Int}{xs:List Int}(h:Rs.Words w a xs)(hb0:∀x,x∈xs→0≤x∧x≤4294967295)(p0:0≤hp)(hk:Ca.hardOk hp xs=true):
  Calls Tryz.prog 22 #[.agg #[.int .u32 hp,.slice a xs.length cap]] w (NewP w hp xs (.slice a xs.length cap)):=by
 have hln:xs.length≤16∧∀x,x∈xs→x≤1024:=by
  unfold Ca.hardOk at hk;simp only[Bool.and_eq_true,decide_eq_true_eq,List.all_eq_true] at hk;exact⟨hk.1.2,hk.2⟩
 have hmk:∀W:World,(Instr.makeSlice 85 (.int .i64 64) (.int .i64 64)).run Tryz.prog W=.ok (.slice (some ⟨W.heap.size,0,none⟩) 64 64) (W.alloc (.cells (List.replicate 64 (Value.int .u8 0)).toArray 5)):=fun W=>run_makeBytes 64 (by decide) W
 have hms:∀W:World,(convert 85 9 (.slice (some ⟨W.heap.size,0,none⟩) 64 64)).run Tryz.prog (W.alloc (.cells (List.replicate 64 (Value.int .u8 0)).toArray 5))=.ok (.string z64) (W.alloc (.cells (List.replicate 64 (Value.int .u8 0)).toArray 5)):=fun W=>made_str 64 W
 obtain⟨arr,harr⟩:∃arr,arr=(List.replicate 64 (Value.int .u8 0)).toArray:=⟨_,rfl⟩;rw[←harr] at hmk hms;have Hmk:=Lh hmk;have Hms:=Lh hms;clear harr hmk hms;obtain⟨hv,hhv⟩:∃hv,hv=Value.slice a xs.length cap:=⟨_,rfl⟩;have hrw:RwV w 1 (.slice a xs.length cap) xs.length (xs.map (Value.int .u32)):=⟨by simp,⟨a,cap,rfl,Ca.words_at h⟩,by unfold maxLen;omega⟩;have hob:∀k,xs.length≠0→(Value.slice a xs.length cap).ownBlock=some k→k<w.heap.size:=fun k hl hk=>by
  obtain⟨g,o,e,hc⟩:=h.cell 0 (by omega);rw[e] at hk;cases hk;unfold World.cell? at hc;cases hg:w.heap[g]? with
  |none=>rw[hg] at hc;cases hc
  |some _=>exact lQ hg
 obtain⟨i0,hi0,hz0,hz1,hz2⟩:=Ni.infoStr';obtain⟨i1,hi1,hy0,hy1,hy2⟩:=info_parts info_strs;have HI:=Lh (And.intro hi0 (And.intro hz0 (And.intro hz1 hz2)));have HJ:=Lh (And.intro hi1 (And.intro hy0 (And.intro hy1 hy2)));have HFin:Hid (∀V b,Rkl V b (Kn.new hp xs)→b.c.hv=hv→(∀k,b.tag k≠0→w.heap.size≤k∨b.tag k=5∧xs.length≠0∧hv.ownBlock=some k)→Below w.heap.size w V→NewP w hp xs hv (.returned (.pointer (some ⟨b.kb,0,none⟩))) V):=Lh fun V b k1 k2 k3 k4=>⟨b,rfl,k1,k2,k3,k4⟩
 have hst:nwO w hp xs hv (w.heap.size+3) (.int .i64 0) ((((w.alloc (.cells #[.int .u32 hp,.slice a xs.length cap] 44)).alloc (.cells #[.int .u32 hp,.slice a xs.length cap,.slice none 0 0] 176)).alloc (.cells #[.slice none 0 0,.slice none 0 0,.int .i64 0] 179)).alloc (.cells #[.pointer (some ⟨w.heap.size+1,0,none⟩),.pointer (some ⟨w.heap.size+2,0,none⟩),.slice none 0 0,.int .u32 0] 76)):=by
  have g0:=heap_alloc_new w (.cells #[.int .u32 hp,.slice a xs.length cap] 44);have z0:(w.alloc (.cells #[.int .u32 hp,.slice a xs.length cap] 44)).heap.size=w.heap.size+1:=by simp
  have b0:Below w.heap.size w (w.alloc (.cells #[.int .u32 hp,.slice a xs.length cap] 44)):=Ba _;generalize w.alloc (.cells #[.int .u32 hp,.slice a xs.length cap] 44)=w1 at*;have g1:=heap_alloc_new w1 (.cells #[.int .u32 hp,.slice a xs.length cap,.slice none 0 0] 176);have z1:(w1.alloc (.cells #[.int .u32 hp,.slice a xs.length cap,.slice none 0 0] 176)).heap.size=w.heap.size+2:=by simp[z0]
  have b1:Below w1.heap.size w1 (w1.alloc (.cells #[.int .u32 hp,.slice a xs.length cap,.slice none 0 0] 176)):=Ba _;rw[z0] at g1;generalize w1.alloc (.cells #[.int .u32 hp,.slice a xs.length cap,.slice none 0 0] 176)=w2 at*;have g2:=heap_alloc_new w2 (.cells #[.slice none 0 0,.slice none 0 0,.int .i64 0] 179);have z2:(w2.alloc (.cells #[.slice none 0 0,.slice none 0 0,.int .i64 0] 179)).heap.size=w.heap.size+3:=by simp[z1]
  have b2:Below w2.heap.size w2 (w2.alloc (.cells #[.slice none 0 0,.slice none 0 0,.int .i64 0] 179)):=Ba _;rw[z1] at g2;generalize w2.alloc (.cells #[.slice none 0 0,.slice none 0 0,.int .i64 0] 179)=w3 at*;have g3:=heap_alloc_new w3 (.cells #[.pointer (some ⟨w.heap.size+1,0,none⟩),.pointer (some ⟨w.heap.size+2,0,none⟩),.slice none 0 0,.int .u32 0] 76);have b3:Below w3.heap.size w3 (w3.alloc (.cells #[.pointer (some ⟨w.heap.size+1,0,none⟩),.pointer (some ⟨w.heap.size+2,0,none⟩),.slice none 0 0,.int .u32 0] 76)):=Ba _;rw[z2] at g3;generalize w3.alloc (.cells #[.pointer (some ⟨w.heap.size+1,0,none⟩),.pointer (some ⟨w.heap.size+2,0,none⟩),.slice none 0 0,.int .u32 0] 76)=w4 at*;have h2:=(b3.block _ (lQ g2)).trans g2;have b23:=bQ b2 b3;have h1:=(b23.block _ (lQ g1)).trans g1;have b13:=bQ b1 b23;have h0:=(b13.block _ (lQ g0)).trans g0;have b03:=bQ b0 b13;obtain⟨b,hb,q1,q2,q3,q4⟩:=Rkl.first h1 h2 g3 (hrw.below b03) hk p0 (fun k hn hk=>by have:=hob k hn hk;have:=b03.size;omega)
  refine⟨0,b,Nat.zero_le _,rfl,hb,q1,by rw[q2,hhv],fun _=>q3,fun k hk=> ?_,fun k hk=>(by rw[q3] at hk;cases hk),b03,by rw[hhv];exact h0⟩;rcases q4 k hk with g|g
  ·exact .inl (by omega)
  ·exact .inr ⟨hob k g.1.1 g.1.2,g.2,g.1.1,by rw[hhv];exact g.1.2⟩
 have HSt:=Lh hst;have HW:=Lh fun V (hV:Below w.heap.size w V)=>Ca.words_below h hV
 have HRw:=Lh fun V (hV:Below w.heap.size w V)=>hrw.below hV
 have HLn:=Lh hln;have HX0:=Lh hb0;have HHv:=Lh hhv;rw[←hhv];generalize NewP w hp xs hv=PQ at*;rw[hhv];clear hst h hrw hob hk hln hb0 hi0 hz0 hz1 hz2 hi1 hy0 hy1 hy2;go_enter func22,ntmps22;go_wp2;obtain⟨kb,hkb⟩:∃x,w.heap.size+3=x:=⟨_,rfl⟩;rw[hkb] at HSt⊢;clear hkb;go_loopw [4,5,6] (fun vi _ _ wr=>nwO w hp xs hv kb vi wr) (fun vi _ _ _=>xs.length - (intOf vi).toNat)
 case atStart=>exact HSt.out
 case round=>
  clear HSt;obtain⟨i,b,hi,rfl,hR,hkb,hhb,hb0,ht,hbn,hbw,hbox⟩:=hrel;obtain⟨c0,c1,_⟩:=two_of hbox;have HR:=Lh hR;have HT:=Lh ht;have HBw:=Lh hbw;have HBx:=Lh hbox;have HKb:=Lh hkb;have HHb:=Lh hhb;have HB0:=Lh hb0;have HBn:=Lh hbn;rw[HHv.out] at c1;clear hR ht hbw hbox hkb hhb hb0 hbn
  by_cases hin:i<xs.length
  ·have hx:xs[i]? =some xs[i]:=Zg hin;obtain⟨x,hxe⟩:∃x:Nat,xs[i]=(x:Int):=⟨xs[i].toNat,by have:=(HX0.out _ (List.getElem_mem hin)).1;omega⟩;have hx1:x≤1024:=by have:=HLn.out.2 _ (List.getElem_mem hin);omega
   rw[hxe] at hx;have HX:=Lh hx;have ii:(i:Int)<xs.length:=by omega
   clear hx c0;go_wp2;clear c1;generalize wr=wo at*;go_loopw [5,6] (fun vl vn w'=>nwI wo x vl vn w') (fun _ vn _=>x - (intOf vn).toNat)
   case atStart=>exact⟨0,Nat.zero_le _,rfl,SlV.nil _ _ _,fun k hk=>(by cases hk),Below.refl _ _⟩
   case round=>
    obtain⟨n,hn,rfl,hs,hown,hbi⟩:=hrel;have hbww:=bQ HBw.out hbi;obtain⟨c0,c1,_⟩:=two_of ((hbi.block _ (lQ HBx.out)).trans HBx.out);rw[HHv.out] at c1;obtain⟨g,o,ea,hc⟩:=(HW.out wr hbww).cell i hin;rw[hxe] at hc;have HS:=Lh hs;have HOw:=Lh hown;have HBi:=Lh hbi;clear hs hown hbi hbww;subst ea
    by_cases hnx:n<x
    ·have nn:(n:Int)<x:=by omega
     have nw:IntKind.u32.wrap ((n:Int)+1)=n+1:=wrap32 (by omega) (by omega);obtain⟨lo,lc,rfl⟩:=HS.out.form;have hA1:Below wr.heap.size wr (wr.alloc (.cells arr 5)):=Ba _;have hA2:Below wr.heap.size wr ((wr.alloc (.cells arr 5)).alloc (.cells #[.string z64] 9)):=hA1.alloc hA1.size _;have hz:((wr.alloc (.cells arr 5)).alloc (.cells #[.string z64] 9)).heap.size=wr.heap.size+2:=by simp
     have hnb:=heap_alloc_new (wr.alloc (.cells arr 5)) (.cells #[.string z64] 9);rw[show(wr.alloc (.cells arr 5)).heap.size=wr.heap.size+1 by simp] at hnb;have HNb:=Lh hnb;have HSA:=Lh (HS.out.below hA2);have HFI:Hid (∀v1 w2,SlV w2 9 1 v1 (n+1) (List.replicate n (.string z64)++[.string z64])→Mod (fun k=>(Value.slice lo n lc).ownBlock=some k) ((wr.alloc (.cells arr 5)).alloc (.cells #[.string z64] 9)) w2→(v1.ownBlock=(Value.slice lo n lc).ownBlock∨∃k,v1.ownBlock=some k∧((wr.alloc (.cells arr 5)).alloc (.cells #[.string z64] 9)).heap.size≤k)→nwI wo x v1 (.int .u32 ((n:Int)+1)) w2):=Lh fun v1 w2 q1 q2 q3=>by
      obtain⟨g,hg,hgl⟩:=q1.lt (by omega);have h2:=q2.size;have h3:=HBi.out.size;refine⟨n+1,hnx,by simp,by rw[List.replicate_succ'];exact q1,fun k hk=>⟨?_,by rw[hg] at hk;cases hk;exact hgl⟩,Mod.below (bQ HBi.out hA2) q2 (by omega) fun k _ hk=>(HOw.out k hk).1⟩;rcases q3 with e|⟨k',e,ek⟩
      ·exact(HOw.out k (e▸hk)).1
      ·rw[e] at hk;cases hk;omega
     have hmk:=Hmk.out;have hms:=Hms.out;clear hA1 hA2 hz hnb;go_wp2_with (at_builtin;refine wpList_append_slv _ (by rfl) _ _ _ (by rfl) 9 i0 (.string ByteArray.empty) 1 16 Tryz.underlying154 HI.out.1 HI.out.2.1 HI.out.2.2.1 HI.out.2.2.2 rfl (by omega) (.slice lo n lc) n (List.replicate n (.string z64)) (by rfl) HSA.out ⟨wr.heap.size+1,0,none⟩ 1 1 [.string z64] (by rfl) (by omega) (by rfl) (World.news_of_block (cs:= #[.string z64]) (t:=9) (fr:=(0,0)) HNb.out) (fun x hx=>by simp at hx;subst hx;rfl) (by unfold maxLen;omega) (by omega) ?_;intro v1 w2 q1 q2 q3;have R1:=Lh (HFI.out v1 w2 q1 q2 q3);obtain⟨o1,c1',e1⟩:=q1.form;subst e1;clear q1 q2 q3);exact⟨R1.out,by simp[intOf];omega⟩
    ·obtain rfl:n=x:=by omega
     have nn:¬(n:Int)<n:=by omega
     have hRo:=HR.out;obtain⟨bo,bc,hbv⟩:=hRo.outer.form;have hrl:b.rows.length=i:=by rw[hRo.len];simp;omega
     rw[hrl] at hbv;obtain⟨lo,lc,rfl⟩:=HS.out.form;have hAi:Below wo.heap.size wo (wr.alloc (.cells #[.slice lo n lc] 154)):=HBi.out.alloc HBi.out.size _;have hAr:Below wr.heap.size wr (wr.alloc (.cells #[.slice lo n lc] 154)):=Ba _;have hou:=(hRo.below hAi).outer;rw[hbv,hrl] at hou;have HOu:=Lh hou;have HNb:=Lh (heap_alloc_new wr (.cells #[.slice lo n lc] 154));have hk2:wr.cell? ⟨kb,2,none⟩=some (.slice bo i bc):=by
      have:=(hRo.below HBi.out).cells.2.2.1;rw[HKb.out,hbv] at this;exact this
     have HK2:Hid (∀w5,Mod (fun k=>(Value.slice bo i bc).ownBlock=some k) (wr.alloc (.cells #[.slice lo n lc] 154)) w5→w5.cell? ⟨kb,2,none⟩=some (.slice bo i bc)∧w5.frozen? ⟨kb,2,none⟩=false):=Lh fun w5 q2=>by
      have hRa:=hRo.below hAi;have hd:=hRa.head;have hne:(Value.slice bo i bc).ownBlock≠some b.kb:=fun e=>by
       have:=hRo.t5 _ (.inr (.inl (by rw[hbv];exact e)));rw[hRo.t1] at this;omega
      have hd5:=(q2.block _ (lQ hd) hne).trans hd;rw[HKb.out] at hd5;refine⟨?_, ?_⟩
      ·unfold World.cell?;rw[hd5,hbv];rfl
      ·unfold World.frozen?;rw[hd5];simp
     have HFO:Hid (∀v5 w5,SlV w5 154 1 v5 (i+1) (b.rows++[.slice lo n lc])→Mod (fun k=>(Value.slice bo i bc).ownBlock=some k) (wr.alloc (.cells #[.slice lo n lc] 154)) w5→(v5.ownBlock=(Value.slice bo i bc).ownBlock∨∃k,v5.ownBlock=some k∧(wr.alloc (.cells #[.slice lo n lc] 154)).heap.size≤k)→nwO w hp xs hv kb (.int .i64 ((i:Int)+1)) (w5.setCell ⟨kb,2,none⟩ v5)):=Lh fun v5 w5 q1 q2 q3=>by
      have hz1:=HBw.out.size;have hz2:=HBi.out.size;have hz3:=hAr.size;have hz4:=q2.size;have hkn:w.heap.size<kb:=by
       rcases HT.out b.kb (by rw[hRo.t1];decide) with g|⟨_,g,_⟩
       ·rw[HKb.out] at g;exact g
       ·rw[hRo.t1] at g;omega
      have hm6:Mod (fun k=>k=kb) w5 (w5.setCell ⟨kb,2,none⟩ v5):=Mod.setCell (F:=fun k=>k=kb) (Mod.refl _ _) ⟨kb,2,none⟩ (.inl rfl) _;have hb5:Below w.heap.size w w5:=Mod.below (bQ HBw.out hAi) q2 (by omega) fun k _ hk=>Nat.le_of_lt (HBn.out k (by rw[hbv];exact hk))
      have hb6:=Mod.below hb5 hm6 hb5.size fun k _ e=>by subst e;omega
      obtain⟨g,hg,hgl⟩:=q1.lt (by omega);obtain⟨a',k1,k2,k3,k4,k5,k6⟩:=Rkl.addRow (w:=wo) (v:=.slice lo n lc) (bv':=v5) (l:=List.replicate n z64) hRo hAi (by rw[List.length_replicate,List.map_replicate];exact HS.out.below hAr) (fun k hk=>⟨(HOw.out k hk).1,by have:=(HOw.out k hk).2;omega⟩) (fun e=>HB0.out (by first|(rw[List.length_map,List.length_take] at e;omega)|(have e:=congrArg List.length e;rw[List.length_map,List.length_take] at e;simp at e;omega))) (by rw[hrl];exact q1) (by rw[hbv];exact q2) (by rw[hbv];exact q3) (fun k hk=>by rw[hg] at hk;cases hk;exact hgl) (fun s hs=>by rw[List.eq_of_mem_replicate hs,z64_size]) (by rw[List.length_replicate];omega) (by have:=HLn.out.1;simp;omega) (by rw[HKb.out,HHb.out,HHv.out];exact HRw.out _ hb6);rw[HKb.out] at k1;refine⟨i+1,a',hin,by simp, ?_,k2.trans HKb.out,by rw[k4];exact HHb.out,fun e=>absurd e (Nat.succ_ne_zero _),fun k hk=> ?_,fun k hk=> ?_,hb6, ?_⟩
      ·have e:(xs.take (i+1)).map (fun n=>List.replicate n.toNat z64)=(xs.take i).map (fun n=>List.replicate n.toNat z64)++[List.replicate n z64]:=by
        rw[List.take_add_one,HX.out]
        simp
       rw[e];exact k1
      ·rcases k6 k hk with⟨g1,g2⟩|⟨g1,g2⟩
       ·rw[g2];exact HT.out k g1
       ·exact .inl (by have:=lQ HBx.out;omega)
      ·rw[k3] at hk;rcases q3 with e|⟨k',e,ek⟩
       ·exact HBn.out k (by rw[hbv,←e];exact hk)
       ·rw[e] at hk;cases hk;have:=lQ HBx.out;omega
      ·have h1:=(hAi.block _ (lQ HBx.out)).trans HBx.out;have h2:=(q2.block _ (lQ h1) (fun e=>by have:=HBn.out _ (by rw[hbv];exact e);omega)).trans h1;exact(hm6.block _ (lQ h2) (by omega)).trans h2
     clear hAi hAr hou hRo hrl;have l16:=HLn.out.1;go_wp2_with (at_builtin;refine wpList_append_slv _ (by rfl) _ _ _ (by rfl) 154 i1 (.slice none 0 0) 1 24 Tryz.underlying74 HJ.out.1 HJ.out.2.1 HJ.out.2.2.1 HJ.out.2.2.2 rfl (by omega) (.slice bo i bc) i b.rows (by rfl) HOu.out ⟨wr.heap.size,0,none⟩ 1 1 [.slice lo n lc] (by rfl) (by omega) (by rfl) (World.news_of_block (cs:= #[.slice lo n lc]) (t:=154) (fr:=(0,0)) HNb.out) (fun x hx=>by simp at hx;subst hx;rfl) (by unfold maxLen;omega) (by omega) ?_;intro v5 w5 q1 q2 q3;have R1:=Lh (HFO.out v5 w5 q1 q2 q3);obtain⟨f1,f2⟩:=HK2.out w5 q2;obtain⟨o5,c5,e5⟩:=q1.form;subst e5;clear q1 q2 q3);exact⟨R1.out,by simp[intOf];omega⟩
  ·obtain rfl:i=xs.length:=by omega
   have nn:¬(xs.length:Int)<xs.length:=by omega
   have hRo:=HR.out;rw[List.take_length] at hRo;have HE:=HFin.out wr b hRo HHb.out (fun k hk=>(HT.out k hk).imp Nat.le_of_lt (·.2)) HBw.out;rw[HKb.out] at HE;have HE:=Lh HE;clear hRo;go_wp2
   first|exact HE.out|(go_ret;exact HE.out)
end Rk
namespace R19
theorem may{w:World}{a:Option Addr}{cap:Nat}{hp:Int}{xs:List Int}(h:Rs.Words w a xs)(hb0:∀x,x∈xs→0≤x∧x≤4294967295)(p0:0≤hp):
  Calls Tryz.prog 19 #[.agg #[.int .u32 hp,.slice a xs.length cap]] w fun e w'=>e=.returned (.bool (Ca.hardOk hp xs))∧Below w.heap.size w w':=by
 have hb:Below w.heap.size w (w.alloc (.cells #[.int .u32 hp,.slice a xs.length cap] 44)):=Ba _;have hblk:=heap_alloc_new w (.cells #[.int .u32 hp,.slice a xs.length cap] 44);have hln:=h.len;have HW:=Lh fun V (hV:Below w.heap.size w V)=>Ca.words_below h hV
 have HRel0:Hid (Ca.ckRel (w.alloc (.cells #[.int .u32 hp,.slice a xs.length cap] 44)) xs (.int .i64 0) (w.alloc (.cells #[.int .u32 hp,.slice a xs.length cap] 44))):=Lh ⟨0,by omega,rfl,fun k x hk=>absurd hk (Nat.not_lt_zero _),Below.refl _ _⟩;have HX0:=Lh hb0;have HB:=Lh hb;have HBlk:=Lh hblk;obtain⟨c0,c1,cf⟩:=two_of hblk;clear hb hblk h hb0;generalize hw1:w.alloc (.cells #[.int .u32 hp,.slice a xs.length cap] 44)=w1 at*;go_enter func19,ntmps19;go_wp2;try rw[hw1]
 clear hw1 c0 c1 cf;go_loopw [3] (fun vi wr=>Ca.ckRel w1 xs vi wr) (fun vi _=>xs.length - (intOf vi).toNat)
 case atStart=>exact HRel0.out
 case round=>
  obtain⟨i,hi,rfl,hno,hbw⟩:=hrel;have HNo:=Lh hno;have HB1:=Lh (bQ HB.out hbw);have HBw:=Lh hbw;obtain⟨c0,c1,cf⟩:=two_of ((hbw.block _ (lQ HBlk.out)).trans HBlk.out);clear hno hbw
  by_cases hin:i<xs.length
  ·obtain⟨g,off,rfl,hc⟩:=(HW.out wr HB1.out).cell i hin;have HX:Hid (xs[i]? =some xs[i]):=Lh (Zg hin);have hi1:(i:Int)<xs.length:=by omega
   generalize xs[i]=x at*
   by_cases hx:1024<x
   ·have HE:Hid (Ca.hardOk hp xs=false):=Lh (by
     have:xs.all (fun x=>decide (x≤1024))=false:=by
      rw[List.all_eq_false];exact⟨x,List.mem_of_getElem? HX.out,by simp;omega⟩
     unfold Ca.hardOk;rw[this,Bool.and_false])
    go_wp2
    first
     |exact⟨by rw[HE.out]<;>rfl,HB1.out⟩
     |(go_ret;exact⟨by rw[HE.out]<;>rfl,HB1.out⟩)
   ·go_wp2;refine⟨⟨i+1,by omega,by go_num,fun k y hk hy=> ?_,HBw.out⟩,by simp[intOf];omega⟩;rcases Nat.lt_or_ge k i with q|q
    ·exact HNo.out k y q hy
    ·obtain rfl:k=i:=by omega
     rw[HX.out] at hy;cases hy;omega
  ·have hi1:¬(i:Int)<xs.length:=by omega
   have HE:Hid (xs.all (fun x=>decide (x≤1024))=true):=Lh (by
    rw[List.all_eq_true];intro x hx;obtain⟨k,hk⟩:=List.getElem?_of_mem hx;exact decide_eq_true (HNo.out k x (by have:=(List.getElem?_eq_some_iff.1 hk).1;omega) hk))
   by_cases d1:hp≤4096
   ·by_cases d2:(xs.length:Int)≤16
    ·have HV:Hid (Ca.hardOk hp xs=true):=Lh (by unfold Ca.hardOk;rw[decide_eq_true d1,decide_eq_true (show xs.length≤16 by omega),HE.out];rfl);go_wp2
     first
      |exact⟨by rw[HV.out]<;>rfl,HB1.out⟩
      |(go_ret;exact⟨by rw[HV.out]<;>rfl,HB1.out⟩)
    ·have HV:Hid (Ca.hardOk hp xs=false):=Lh (by unfold Ca.hardOk;rw[decide_eq_false (show¬xs.length≤16 by omega)];simp);go_wp2
     first
      |exact⟨by rw[HV.out]<;>rfl,HB1.out⟩
      |(go_ret;exact⟨by rw[HV.out]<;>rfl,HB1.out⟩)
   ·have HV:Hid (Ca.hardOk hp xs=false):=Lh (by unfold Ca.hardOk;rw[decide_eq_false d1];rfl);go_wp2
    first
     |exact⟨by rw[HV.out]<;>rfl,HB1.out⟩
     |(go_ret;exact⟨by rw[HV.out]<;>rfl,HB1.out⟩)
end R19
end Go.Proofs.YtehihecknhcggaaGreat
namespace Go.Proofs.YtehihecknhcggaaGreat.In
open Go.RowKit
structure Txs(w:World)(a:Option Addr)(l:List ByteArray):Prop where
 cell:∀i (h:i<l.length),∃g o,a=some ⟨g,o,none⟩∧w.cell? ⟨g,o+i,none⟩=some (.string l[i])
 sz:∀s,s∈l→s.size<140737488355328
 len:l.length≤9223372036854775807
theorem cell_lt{w:World}{b i:Nat}{v:Value}(h:w.cell? ⟨b,i,none⟩=some v):b<w.heap.size:=by
 unfold World.cell? at h;cases hg:w.heap[b]? with
 |none=>rw[hg] at h;cases h
 |some _=>exact lQ hg
structure ClI where
 dn:Int
 nm:Int
 c:Nat→Int
 fr:ByteArray
structure ClI.ok(x:ClI):Prop where
 d: -9223372036854775808≤x.dn∧x.dn≤9223372036854775807
 n:0≤x.nm∧x.nm≤4294967295
 c:∀i,i<4→0≤x.c i∧x.c i≤4294967295
 f:x.fr.size<140737488355328
structure WdI where
 h:HdI
 m:MnI
 x:Cp.St
 ba:Option Addr
 bcap:Nat
 bl:List ByteArray
def WdI.cells(d:WdI):Array Value:= #[.int .u32 d.h.p,d.h.v,.int .u32 d.m.m.pages,d.m.ev,d.m.pv,.bool d.m.m.con,.slice d.x.ra d.x.rn d.x.rcap,.int .u32 d.x.pc,.slice d.x.pa d.x.pn d.x.pcap,.int .u16 d.x.at',.slice d.x.ca d.x.cn d.x.ccap,.int .u16 d.x.wh,.string d.x.text,.slice d.ba d.bl.length d.bcap]
structure WdI.pre(w:World)(d:WdI):Prop where
 h:d.h.pre w
 m:d.m.pre w
 x:d.x.pre w
 b:Txs w d.ba d.bl
end Go.Proofs.YtehihecknhcggaaGreat.In
namespace Go.Proofs.YtehihecknhcggaaGreat
open Go.RowKit
namespace Rk
theorem grant{w:World}{b:RkAt}{K:Kn}(h:Rkl w b K)(hl:K.hx.length≤16){n pg:Int}(p0:0≤pg){m:Mn}{ev pv:Value}(hm:MnIn w ev pv m)(hok:m.ok):
  Calls Tryz.prog 99 #[.pointer (some ⟨b.c.rb,0,none⟩),.int .i64 n,.agg (m.cells ev pv),.int .u32 pg] w fun e w'=>
   (Ca.grantE K.hp K.hx K.g n m pg≠0∧e=.returned (.int .i64 (Ca.grantE K.hp K.hx K.g n m pg))∧Below w.heap.size w w')∨
   (Ca.grantE K.hp K.hx K.g n m pg=0∧e=.returned (.int .i64 0)∧∃b',RkStep w w' b K b' {K with g:=Gp.upd K.g n (some ⟨m,pg,0⟩)}):=by
 refine(Rc.grant h.caps h.hx hl p0 hm hok).mono ?_;rintro e w' (g|⟨g1,g2,c,g3,g4,g5,g6,g7,g8⟩)
 ·exact .inl g
 ·refine .inr ⟨g1,g2,_,RkStep.setCaps h g3 g4 g5 (fun k hk=> ?_) (g8.mono fun k _ e=>.inl (.inl e))⟩;rcases hk with(z|z)|z
  ·exact .inl (.inl (.inl (by rw[z,g4])))
  ·exact .inr (g7 k z)
  ·exact(g6 k z).imp .inr id
end Rk
namespace L22
open In
structure WBox(w:World)(b:Nat)(d:WdI):Prop where
 blk:w.heap[b]? =some (.cells d.cells 156 (0,0))
theorem WBox.below{w w':World}{b:Nat}{d:WdI}(h:WBox w b d)(hb:Below w.heap.size w w'):WBox w' b d:=⟨(hb.block _ (lQ h.blk)).trans h.blk⟩
theorem WBox.cell{w:World}{b:Nat}{d:WdI}(h:WBox w b d)(i:Nat)(v:Value)(hi:d.cells[i]? =some v):w.cell? ⟨b,i,none⟩=some v:=by
 unfold World.cell?;rw[h.blk];exact hi
end L22
end Go.Proofs.YtehihecknhcggaaGreat
