/- RspW: RspA, RspB, RspC, RspD in one text. -/
import Derived.Test.YtnpicaigdfnmfaaGreatPnBase
import Derived.RangeFuncBox
import Derived.Deep.AppendLies
import Derived.Deep.RegionLaw
import Derived.Deep.QuietTactic
import Derived.BigQuiet
import Derived.Laws.IdiomStrings
import Derived.Test.YtnpicaigdfnmfaaGreatPnZa
set_option linter.unusedVariables false
set_option linter.unusedSimpArgs false
set_option maxRecDepth 100000
set_option maxHeartbeats 16000000
open Go.Proofs.Tryz
namespace Go.Proofs.YtnpicaigdfnmfaaGreat
open Go.RowKit
theorem own_ne{W:World}{base:Nat}{e e':TypeId}{s n:Nat}{v:Value}{xs:List Value}{c:Array Value}{fr:Nat×Nat}{k:Nat}(h:W.ownsRow base e s v n xs)(hk:W.heap[k]? =some (.cells c e' fr))(hne:e'≠e):v.ownBlock≠some k:=by
 intro g;rcases h.2 with⟨rfl,_⟩|⟨b,cap,cur,rfl,_,hb,_⟩
 ·cases g
 ·cases g;rw[hk] at hb;simp only[Option.some.injEq,Obj.cells.injEq] at hb;exact hne hb.2.1
theorem row_keep{W W':World}{base:Nat}{e:TypeId}{s n:Nat}{v:Value}{xs:List Value}(h:W.ownsRow base e s v n xs)(hk:∀k,v.ownBlock=some k→W'.heap[k]? =W.heap[k]?):W'.ownsRow base e s v n xs:=by
 obtain⟨hl,g⟩:=h;refine⟨hl,g.imp id ?_⟩;rintro⟨b,cap,cur,rfl,h1,h2,rest⟩;exact⟨b,cap,cur,rfl,h1,(hk b rfl).trans h2,rest⟩
def insR(p:Rp):List Rp→List Rp
 | []=>[p]
 |q::r=>if p.pg.addr<q.pg.addr then p::q::r else q::insR p r
theorem rpgs_insR(p:Rp)(R:List Rp):rpgs (insR p R)=insPg p.pg (rpgs R):=by
 induction R with
 |nil=>rfl
 |cons q r ih=>
  unfold insR
  show _=if p.pg.addr<q.pg.addr then _ else _
  split
  ·rfl
  ·show q.pg::rpgs (insR p r)=_
   rw[ih];rfl
theorem mem_insR{p q:Rp}{R:List Rp}:q∈insR p R↔q=p∨q∈R:=by
 induction R with
 |nil=>simp[insR]
 |cons a r ih=>
  unfold insR
  split
  ·simp
  ·rw[List.mem_cons,ih,List.mem_cons]
   constructor
   ·rintro(h|h|h)<;>simp[h]
   ·rintro(h|h|h)<;>simp[h]
theorem ins_first{p y:Rp}:∀ {l:List Rp},(∀q,q∈l→¬p.pg.addr<q.pg.addr)→p.pg.addr<y.pg.addr→insR p (l++[y])=l++[p]++[y]
 | [],_,h=>by simp[insR,h]
 |q::l,h,hy=>by
  have h1:=h q (by simp);have ih:=ins_first (l:=l) (fun q hq=>h q (by simp[hq])) hy
  show(if p.pg.addr<q.pg.addr then _ else q::insR p (l++[y]))=_
  rw[if_neg h1,ih];rfl
theorem ins_later{p y:Rp}:∀ {l:List Rp},(∃q,q∈l∧p.pg.addr<q.pg.addr)→insR p (l++[y])=insR p l++[y]
 | [],⟨q,hq,_⟩=>by simp at hq
 |a::l,⟨q,hq,hlt⟩=>by
  show(if p.pg.addr<a.pg.addr then _ else a::insR p (l++[y]))=(if p.pg.addr<a.pg.addr then _ else a::insR p l)++[y]
  by_cases g:p.pg.addr<a.pg.addr
  ·rw[if_pos g,if_pos g];rfl
  ·rw[if_neg g,if_neg g,ins_later (l:=l)]
   ·rfl
   ·rcases List.mem_cons.1 hq with rfl|hq'
    ·exact absurd hlt g
    ·exact⟨q,hq',hlt⟩
theorem ins_end{p:Rp}:∀ {l:List Rp},(∀q,q∈l→¬p.pg.addr<q.pg.addr)→insR p l=l++[p]
 | [],_=>rfl
 |q::l,h=>by
  have ih:=ins_end (l:=l) (fun q hq=>h q (by simp[hq]))
  show(if p.pg.addr<q.pg.addr then _ else q::insR p l)=_
  rw[if_neg (h q (by simp)),ih];rfl
theorem infoPg:(Tryz.prog.info? 276).map (fun i=>(i.zero,i.size,i.bytes))=some (some (.pointer none),1,8):=by kernel_rfl
namespace Rs
def fresh(w:World)(p:Rp):Prop:=w.heap.size≤p.pg.blk∧w.heap.size≤p.bb
def mpRel(w:World)(rb:Nat)(lv:Value)(R:List Rp)(addr perm:Int)(vl vd vi:Value)(wr:World):Prop:=
 ∃i:Nat,vi=.int .i64 i∧i≤R.length∧Rsp wr rb lv R∧Below w.heap.size w wr∧
  (
   (vd=.bool false∧(∀q,q∈R.take i→¬addr<q.pg.addr)∧wr.ownsRow w.heap.size 276 1 vl i ((R.take i).map Rp.ptr))∨
   (vd=.bool true∧∃p:Rp,p.pg=pgNew addr p.pg.blk perm∧fresh w p∧RPage wr p∧(∃q,q∈R.take i∧addr<q.pg.addr)∧wr.ownsRow w.heap.size 276 1 vl (i+1) ((insR p (R.take i)).map Rp.ptr)))
def MapPost(w:World)(rb:Nat)(R:List Rp)(addr perm:Int)(e:Ending)(w':World):Prop:=
 ∃(p:Rp) (lv':Value),e=.returned (.int .i64 0)∧p.pg=pgNew addr p.pg.blk perm∧fresh w p∧Rsp w' rb lv' (insR p R)∧(∀k,lv'.ownBlock=some k→w.heap.size≤k)∧Mod (fun k=>k=rb) w w'
theorem new_page(W:World)(addr perm:Int)(h0:0≤addr)(h1:addr<1048576)(h2:addr % 256=0)(p0:0≤perm)(p1:perm≤7):
  RPage ((W.alloc (.cells (Sp.fillL [] 256).toArray 5)).alloc (.cells #[.int .u32 addr,.int .u8 perm,.slice (some ⟨W.heap.size,0,none⟩) 256 256] 279)) ⟨pgNew addr (W.heap.size+1) perm,W.heap.size,256⟩:=by
 refine⟨?_,⟨(Sp.fillL [] 256).toArray, ?_,by rw[Sp.fillL_zero,List.size_toArray,List.length_replicate],fun j hj=> ?_⟩,Nat.le_refl _,by unfold maxLen;show 256≤2 ^ 63 - 1;omega, ?_⟩
 ·have:=heap_alloc2_new W (.cells (Sp.fillL [] 256).toArray 5) (.cells #[.int .u32 addr,.int .u8 perm,.slice (some ⟨W.heap.size,0,none⟩) 256 256] 279);exact this
 ·exact heap_alloc2_old W _ _
 ·rw[Sp.fillL_zero,List.getElem?_toArray,List.getElem?_replicate_of_lt hj]
  show _=some (Value.int .u8 ((List.replicate 256 (0:Int)).getD j 0))
  rw[List.getD,List.getElem?_replicate_of_lt hj];rfl
 ·exact⟨h0,h1,h2,p0,p1,List.length_replicate,fun x hx=>by have:=List.eq_of_mem_replicate hx;omega⟩
theorem kept_page{W W':World}{base n:Nat}{v:Value}{xs:List Value}{p:Rp}(h:W.ownsRow base 276 1 v n xs)(hg:W.grownBy W' v.ownBlock)(hp:RPage W p):RPage W' p:=by
 obtain⟨cur,hb,_⟩:=hp.data;exact hp.keep (hg.block _ hp.lt1 fun e=>own_ne h hp.page (by decide) e.symm) (hg.block _ hp.lt2 fun e=>own_ne h hb (by decide) e.symm)
theorem page_alloc{W:World}{p:Rp}(hp:RPage W p)(o:Obj):RPage (W.alloc o) p:=hp.keep (Below.heap_alloc W o _ hp.lt1) (Below.heap_alloc W o _ hp.lt2)
theorem own_below{B:Nat}{a W W':World}{n:Nat}{e:TypeId}{v:Value}{xs:List Value}(hb:Below B a W)(hB:B≤W.heap.size)(h:W.ownsRow B e 1 v n xs)(hg:W.grownBy W' v.ownBlock):Below B a W':=hb.grown hg hB fun k hk=>(h.lt k hk).1
theorem cell_at2(W:World)(a b:Obj)(x:Value)(t:TypeId):∀j u,[x][j]? =some u→(((W.alloc a).alloc b).alloc (.cells #[x] t)).cell? ((⟨W.heap.size+2,0,none⟩:Addr).add j)=some u:=by
 have:=cell_one_new ((W.alloc a).alloc b) x t
 simpa using this
theorem pw_insR{p:Rp}{R:List Rp}(h:R.Pairwise fun p q=>p.bb≠q.bb)(hn:∀q,q∈R→q.bb≠p.bb):(insR p R).Pairwise fun p q=>p.bb≠q.bb:=by
 induction R with
 |nil=>exact List.pairwise_singleton _ _
 |cons q r ih=>
  have h2:=List.pairwise_cons.1 h;unfold insR
  split
  ·exact List.pairwise_cons.2 ⟨fun y hy=>(hn y hy).symm,h⟩
  ·refine List.pairwise_cons.2 ⟨fun y hy=> ?_,ih h2.2 fun y hy=>hn y (List.mem_cons_of_mem _ hy)⟩;rcases mem_insR.1 hy with rfl|hy
   ·exact hn q (by simp)
   ·exact h2.1 y hy
theorem rsp_store{W:World}{B rb:Nat}{lv v:Value}{R L:List Rp}(h:Rsp W rb lv R)(hown:W.ownsRow B 276 1 v L.length (L.map Rp.ptr))(hpg:∀q,q∈L→RPage W q)
  (hup:(rpgs L).Pairwise fun p q=>p.addr<q.addr) (hbb:L.Pairwise fun p q=>p.bb≠q.bb):Rsp (W.setCell ⟨rb,0,none⟩ v) rb v L:=by
 have hne:∀k,k≠rb→(W.setCell ⟨rb,0,none⟩ v).heap[k]? =W.heap[k]? :=fun k hk=>Below.heap_setCell _ _ _ _ hk
 refine⟨?_, ?_,fun q hq=>(hpg q hq).keep (hne _ fun e=> ?_) (hne _ fun e=> ?_),hup,hbb⟩
 ·have:=heap_setCell_same W rb 0 _ _ v h.head
  simpa using this
 ·have hz:W.ownsRow 0 276 1 v L.length (L.map Rp.ptr):=by
   obtain⟨hl,g⟩:=hown;refine⟨hl,g.imp id ?_⟩;rintro⟨b,cap,cur,h1,h2,h3⟩;exact⟨b,cap,cur,h1,Nat.zero_le _,h3⟩
  exact row_keep hz fun k hk=>hne k fun e=>own_ne hown h.head (by decide) (e▸hk)
 ·have:=(hpg q hq).page;rw[e,h.head] at this;simp at this
 ·obtain⟨cur,this,_⟩:=(hpg q hq).data;rw[e,h.head] at this;simp at this
theorem map_fin{w W:World}{rb:Nat}{lv v:Value}{R:List Rp}{addr perm:Int}{p:Rp}(h:Rsp w rb lv R)(hb:Below w.heap.size w W)(hp:p.pg=pgNew addr p.pg.blk perm)(hf:fresh w p)(hpp:RPage W p)
  (hn:pageAt (rpgs R) addr=none) (ha:addr % 256=0) (hown:W.ownsRow w.heap.size 276 1 v (R.length+1) ((insR p R).map Rp.ptr)) (e:Ending) (he:e=.returned (.int .i64 0)):MapPost w rb R addr perm e (W.setCell ⟨rb,0,none⟩ v):=by
 have hS:=h.below hb fun k hk=>h.lt hk
 have hpa:p.pg.addr=addr:=by rw[hp];rfl
 have hl:(insR p R).length=R.length+1:=by
  have:=congrArg List.length (rpgs_insR p R);rw[length_insPg] at this
  simpa [rpgs] using this
 refine⟨p,v,he,hp,hf,rsp_store hS (by rw[hl];exact hown) ?_ ?_ ?_,fun k hk=>(hown.lt k hk).1,(Mod.of_below hb (fun k=>k=rb)).setCell _ (.inl rfl) _⟩
 ·intro q hq;rcases mem_insR.1 hq with rfl|hq
  ·exact hpp
  ·exact hS.pages q hq
 ·rw[rpgs_insR];refine up_insPg h.up fun q hq e=> ?_
  rw[hpa] at e;unfold pageAt at hn;rw[ha,Int.sub_zero,←e,show atAddr (rpgs R) q.addr=some q from atAddr_eq_some h.up hq] at hn;cases hn
 ·refine pw_insR h.bbs fun q hq e=> ?_
  have:=(h.pages q hq).lt2;have:=hf.2;omega
theorem map_ok{w:World}{rb:Nat}{lv:Value}{R:List Rp}(h:Rsp w rb lv R)(addr perm:Int)(h0:0≤addr)(h1:addr≤4294967295)(p0:0≤perm)(p1:perm≤7)(hm:Sp.mayB addr=true)(hp:pageAt (rpgs R) addr=none):
  Calls Tryz.prog 81 #[.pointer (some ⟨rb,0,none⟩),.int .u32 addr,.int .u8 perm] w (MapPost w rb R addr perm):=by
 have ha:addr % 256=0∧addr<1048576:=by unfold Sp.mayB at hm;simpa using hm
 have ha1:=ha.1;have ha2:=ha.2;have hof:=of_none h addr h0 (by omega) hp;have hln:=h.len;obtain⟨i0,hi0,hz0,hz1,hz2⟩:=info_parts infoPg;have Hi:=Lh hi0;have Hz0:=Lh hz0;have Hz1:=Lh hz1;have Hz2:=Lh hz2;obtain⟨n,hn⟩:∃n,R.length=n:=⟨_,rfl⟩;have Hn:=Lh hn;rw[hn] at hln;have Hof:=Lh hof;have H:=Lh h;have Hp:=Lh hp;obtain⟨a,cap,hlv,hrow,_⟩:=h.row;have Hrow:=Lh hrow;have hc0:=h.cellHead;rw[hlv,hn] at hc0;have Hlv:=Lh hlv;have Hc0:=Lh hc0;have Hf0:=Lh (show w.frozen? ⟨rb,0,none⟩=false by have:=h.head;unfold World.frozen?;rw[this];rfl);have hrb:rb<w.heap.size:=lQ h.head;have hmk:∀W,(Instr.makeSlice 43 (.int .i64 256) (.int .i64 256)).run Tryz.prog W=.ok (.slice (some ⟨W.heap.size,0,none⟩) 256 256) (W.alloc (.cells (Sp.fillL [] 256).toArray 5)):=fun W=>Sp.run_made 256 (by omega) W
 have Hmay:=Lh (fun w=>may addr h0 h1 w);rw[hm] at Hmay;clear h hp hof hi0 hz0 hz1 hz2 hn ha hm hrow hc0 hlv;go_enter func81,ntmps81;go_wp2_with (first|(go_at_call 127;(with_reducible refine(Hmay.out _).mono ?_);rintro e w1 ⟨rfl,rfl⟩)|(go_at_call 128;(with_reducible refine Hof.out.mono ?_);rintro e w1 ⟨rfl,rfl⟩));go_loopw [7,8,9] (fun vl vd vi wr=>mpRel w rb lv R addr perm vl vd vi wr) (fun _ _ vi _=>n - (intOf vi).toNat)
 case atStart=>exact⟨0,by go_num,Nat.zero_le _,H.out,Below.refl _ _,.inl ⟨rfl,fun q hq=>by simp at hq,World.ownsRow_nil _ _ _ _⟩⟩
 case round=>
  obtain⟨i,rfl,hi,hsp,hbw,hd⟩:=hrel;rw[Hn.out] at hi;have hsz:=hbw.size;have hc:wr.cell? ⟨rb,0,none⟩=some (.slice a n cap):=(hbw.cell hrb).trans Hc0.out;have HB:=Lh hbw
  by_cases hin:i<n
  ·have hin2:i<R.length:=by rw[Hn.out];exact hin
   obtain⟨g,rfl,hcell⟩:=Hrow.out (by rw[Hn.out];omega);have hci0:w.cell? ⟨g,i,none⟩=some (R[i]).ptr:=hcell i _ (Zg hin2);have hg:g<w.heap.size:=H.out.lt (.inr (.inl (by rw[Hlv.out];rfl)));have hci:wr.cell? ⟨g,i,none⟩=some (R[i]).ptr:=(hbw.cell hg).trans hci0;have hpg:=hsp.pages R[i] (List.getElem_mem hin2);obtain⟨c0,_,_⟩:=hpg.cells;have htk:=Lh (List.take_succ_eq_append_getElem hin2);have Hci0:=Lh hci0;unfold Rp.ptr at hci;rcases hd with⟨rfl,hno,hown⟩|⟨rfl,p,hpp,hfr,hpr,hex,hown⟩
   ·have Hno:=Lh hno;have Ho:=Lh hown;clear hno hown hsp hbw hpg hcell hci0
    by_cases hlt:addr<R[i].pg.addr
    ·go_wp2_with (first
      |(at_builtin;go_loud (refine wpList_append_own _ rfl _ _ 199 rfl w.heap.size 276 i0 (.pointer none) 1 8 Tryz.underlying199 Hi.out Hz0.out Hz1.out Hz2.out rfl (by decide) _ _ _ rfl (((Ho.out.alloc _).alloc _).alloc _) ⟨wr.heap.size+2,0,none⟩ 1 1 [.pointer (some ⟨wr.heap.size+1,0,none⟩)] rfl rfl (cell_at2 _ _ _ _ _) (by simp[Value.oneCell']) (by unfold maxLen;omega) (by omega) (by simp;omega) ?_);intro v1 w1 ho1 hg1 _;have hb1:=own_below (((HB.out.alloc hsz _).alloc (by simp;omega) _).alloc (by simp;omega) _) (by simp;omega) (((Ho.out.alloc _).alloc _).alloc _) hg1;have hp1:=kept_page (((Ho.out.alloc _).alloc _).alloc _) hg1 (page_alloc (new_page wr addr perm h0 ha2 ha1 p0 p1) _);have hc1:=(hb1.cell (p:=⟨rb,0,none⟩) hrb).trans Hc0.out;have hci1:=(hb1.cell (p:=⟨g,i,none⟩) hg).trans Hci0.out;have hs1:=hb1.size;unfold Rp.ptr at hci1)
      |(at_builtin;go_loud (refine wpList_append_own _ rfl _ _ 199 rfl w.heap.size 276 i0 (.pointer none) 1 8 Tryz.underlying199 Hi.out Hz0.out Hz1.out Hz2.out rfl (by decide) _ _ _ rfl (ho1.alloc _) ⟨w1.heap.size,0,none⟩ 1 1 [.pointer (some ⟨R[i].pg.blk,0,none⟩)] rfl rfl (cell_one_new _ _ _) (by simp[Value.oneCell']) (by unfold maxLen;omega) (by omega) (by simp;omega) ?_);intro v2 w2 ho2 hg2 _;have hb2:=own_below (hb1.alloc hs1 _) (by simp;omega) (ho1.alloc _) hg2;have hp2:=kept_page (ho1.alloc _) hg2 (page_alloc hp1 _)))
     refine⟨⟨i+1,by go_num,by rw[Hn.out];omega,H.out.below hb2 fun k hk=>H.out.lt hk,hb2,.inr ⟨rfl,_,rfl,⟨?_,hsz⟩,hp2,⟨R[i], ?_,hlt⟩, ?_⟩⟩,by simp[intOf];omega⟩
     ·show w.heap.size≤wr.heap.size+1
      omega
     ·rw[htk.out];exact List.mem_append_right _ (List.mem_singleton.2 rfl)
     ·rw[htk.out,ins_first Hno.out hlt,List.map_append,List.map_append];exact ho2
    ·go_wp2_with (at_builtin;go_loud (refine wpList_append_own _ rfl _ _ 199 rfl w.heap.size 276 i0 (.pointer none) 1 8 Tryz.underlying199 Hi.out Hz0.out Hz1.out Hz2.out rfl (by decide) _ _ _ rfl (Ho.out.alloc _) ⟨wr.heap.size,0,none⟩ 1 1 [.pointer (some ⟨R[i].pg.blk,0,none⟩)] rfl rfl (cell_one_new _ _ _) (by simp[Value.oneCell']) (by unfold maxLen;omega) (by omega) (by simp;omega) ?_);intro v2 w2 ho2 hg2 _;have hb2:=own_below (HB.out.alloc hsz _) (by simp;omega) (Ho.out.alloc _) hg2);refine⟨⟨i+1,by go_num,by rw[Hn.out];omega,H.out.below hb2 fun k hk=>H.out.lt hk,hb2,.inl ⟨rfl,fun q hq=> ?_, ?_⟩⟩,by simp[intOf];omega⟩
     ·rw[htk.out,List.mem_append] at hq;rcases hq with hq|hq
      ·exact Hno.out q hq
      ·rw[List.mem_singleton.1 hq];exact hlt
     ·rw[htk.out,List.map_append];exact ho2
   ·have Hex:=Lh hex;have Ho:=Lh hown;have Hpr:=Lh hpr;have Hpp:=Lh hpp;have Hfr:=Lh hfr;clear hex hown hpr hpp hfr hsp hbw hpg hcell hci0;go_wp2_with (at_builtin;go_loud (refine wpList_append_own _ rfl _ _ 199 rfl w.heap.size 276 i0 (.pointer none) 1 8 Tryz.underlying199 Hi.out Hz0.out Hz1.out Hz2.out rfl (by decide) _ _ _ rfl (Ho.out.alloc _) ⟨wr.heap.size,0,none⟩ 1 1 [.pointer (some ⟨R[i].pg.blk,0,none⟩)] rfl rfl (cell_one_new _ _ _) (by simp[Value.oneCell']) (by unfold maxLen;omega) (by omega) (by simp;omega) ?_);intro v2 w2 ho2 hg2 _;have hb2:=own_below (HB.out.alloc hsz _) (by simp;omega) (Ho.out.alloc _) hg2;have hp2:=kept_page (Ho.out.alloc _) hg2 (page_alloc Hpr.out _));refine⟨⟨i+1,by go_num,by rw[Hn.out];omega,H.out.below hb2 fun k hk=>H.out.lt hk,hb2,.inr ⟨rfl,p,Hpp.out,Hfr.out,hp2, ?_, ?_⟩⟩,by simp[intOf];omega⟩
    ·obtain⟨q,hq,hl⟩:=Hex.out;exact⟨q,by rw[htk.out];exact List.mem_append_left _ hq,hl⟩
    ·obtain⟨q,hq,hl⟩:=Hex.out;rw[htk.out,ins_later ⟨q,hq,by rw[Hpp.out];exact hl⟩,List.map_append];exact ho2
  ·obtain rfl:i=n:=by omega
   have htk:R.take i=R:=List.take_of_length_le (by rw[Hn.out];exact Nat.le_refl _);have Htk:=Lh htk;rcases hd with⟨rfl,hno,hown⟩|⟨rfl,p,hpp,hfr,hpr,hex,hown⟩
   ·have Hno:=Lh hno;have Ho:=Lh hown;clear hno hown hsp hbw htk;have hfz:wr.frozen? ⟨rb,0,none⟩=false:=by have:=(H.out.below HB.out fun k hk=>H.out.lt hk).head;unfold World.frozen?;rw[this];rfl
    go_wp2_with (at_builtin;go_loud (refine wpList_append_own _ rfl _ _ 199 rfl w.heap.size 276 i0 (.pointer none) 1 8 Tryz.underlying199 Hi.out Hz0.out Hz1.out Hz2.out rfl (by decide) _ _ _ rfl (((Ho.out.alloc _).alloc _).alloc _) ⟨wr.heap.size+2,0,none⟩ 1 1 [.pointer (some ⟨wr.heap.size+1,0,none⟩)] rfl rfl (cell_at2 _ _ _ _ _) (by simp[Value.oneCell']) (by unfold maxLen;omega) (by omega) (by simp;omega) ?_);intro v1 w1 ho1 hg1 _;have hb1:=own_below (((HB.out.alloc hsz _).alloc (by simp;omega) _).alloc (by simp;omega) _) (by simp;omega) (((Ho.out.alloc _).alloc _).alloc _) hg1;have hp1:=kept_page (((Ho.out.alloc _).alloc _).alloc _) hg1 (page_alloc (new_page wr addr perm h0 ha2 ha1 p0 p1) _);have hc1:=(hb1.cell (p:=⟨rb,0,none⟩) hrb).trans Hc0.out;have hf1:=((hb1.frozen (p:=⟨rb,0,none⟩) hrb)).trans Hf0.out;obtain⟨g1,cap1,rfl⟩:=ownsRow_succ ho1);go_ret;refine map_fin H.out hb1 ?_ ?_ hp1 Hp.out ha1 ?_ _ rfl
    ·rfl
    ·exact⟨by show w.heap.size≤wr.heap.size+1;omega,hsz⟩
    ·rw[Hn.out,ins_end fun q hq=>Int.not_lt.2 (Hno.out q (by rw[Htk.out];exact hq))];rw[Htk.out] at ho1;rw[List.map_append];exact ho1
   ·have Ho:=Lh hown;have Hpr:=Lh hpr;have Hpp:=Lh hpp;have Hfr:=Lh hfr;clear hex hown hpr hpp hfr hsp hbw htk;obtain⟨g1,cap1,rfl⟩:=ownsRow_succ Ho.out;have hfz:wr.frozen? ⟨rb,0,none⟩=false:=(HB.out.frozen (p:=⟨rb,0,none⟩) hrb).trans Hf0.out;go_wp2;go_ret;refine map_fin H.out HB.out Hpp.out Hfr.out Hpr.out Hp.out ha1 ?_ _ rfl;have:=Ho.out;rw[Htk.out] at this;rw[Hn.out];exact this
end Rs
structure RStep(w w':World)(rb:Nat)(lv:Value)(R:List Rp)(lv':Value)(R':List Rp):Prop where
 sp:Rsp w' rb lv' R'
 mod:Mod (Rsp.foot rb lv R) w w'
 foot:∀k,Rsp.foot rb lv' R' k→Rsp.foot rb lv R k∨w.heap.size≤k
theorem RStep.refl{w:World}{rb:Nat}{lv:Value}{R:List Rp}(h:Rsp w rb lv R):RStep w w rb lv R lv R:=⟨h,Mod.refl _ _,fun _ g=>.inl g⟩
namespace Rs
theorem map_arg{w:World}{rb:Nat}(addr perm:Int)(h0:0≤addr)(h1:addr≤4294967295)(p0:0≤perm)(p1:perm≤255)(hb:Sp.mayB addr=false∨7<perm):
  Calls Tryz.prog 81 #[.pointer (some ⟨rb,0,none⟩),.int .u32 addr,.int .u8 perm] w fun e w'=>e=.returned (.int .i64 2)∧w=w':=by
 cases hm:Sp.mayB addr with
 |false=>
  have Hmay:=Lh (fun w=>may addr h0 h1 w);rw[hm] at Hmay;go_enter func81,ntmps81;go_wp2_with (go_at_call 127;(with_reducible refine(Hmay.out _).mono ?_);rintro e w1 ⟨rfl,rfl⟩);go_ret;exact⟨rfl,rfl⟩
 |true=>
  have hp:7<perm:=by rw[hm] at hb;simpa using hb
  have Hmay:=Lh (fun w=>may addr h0 h1 w);rw[hm] at Hmay;clear hb;go_enter func81,ntmps81;go_wp2_with (go_at_call 127;(with_reducible refine(Hmay.out _).mono ?_);rintro e w1 ⟨rfl,rfl⟩);go_ret;exact⟨rfl,rfl⟩
theorem map_have{w:World}{rb:Nat}{lv:Value}{R:List Rp}(h:Rsp w rb lv R)(addr perm:Int)(h0:0≤addr)(h1:addr≤4294967295)(p0:0≤perm)(p1:perm≤7)(hm:Sp.mayB addr=true){p:Pg}(hp:pageAt (rpgs R) addr=some p):
  Calls Tryz.prog 81 #[.pointer (some ⟨rb,0,none⟩),.int .u32 addr,.int .u8 perm] w fun e w'=>e=.returned (.int .i64 9)∧w=w':=by
 have Hof:=Lh (of_some h addr h0 (by omega) hp);have Hmay:=Lh (fun w=>may addr h0 h1 w);rw[hm] at Hmay;clear h hp;go_enter func81,ntmps81;go_wp2_with (first|(go_at_call 127;(with_reducible refine(Hmay.out _).mono ?_);rintro e w1 ⟨rfl,rfl⟩)|(go_at_call 128;(with_reducible refine Hof.out.mono ?_);rintro e w1 ⟨rfl,rfl⟩));go_ret;exact⟨rfl,rfl⟩
theorem map_any{w:World}{rb:Nat}{lv:Value}{R:List Rp}(h:Rsp w rb lv R)(addr perm:Int)(h0:0≤addr)(h1:addr≤4294967295)(p0:0≤perm)(p1:perm≤255):
  Calls Tryz.prog 81 #[.pointer (some ⟨rb,0,none⟩),.int .u32 addr,.int .u8 perm] w fun e w'=>∃lv' R' blk,e=.returned (.int .i64 (Sp.mapE (rpgs R) addr perm))∧rpgs R'=Sp.mapA (rpgs R) addr blk perm∧RStep w w' rb lv R lv' R':=by
 by_cases hb:Sp.mayB addr=false∨7<perm
 ·have e:Sp.mapE (rpgs R) addr perm=2:=by unfold Sp.mapE;rw[if_pos hb]
  exact(map_arg addr perm h0 h1 p0 p1 hb).mono fun x w' ⟨g1,g2⟩=>⟨lv,R,0,by rw[g1,e],by unfold Sp.mapA;rw[e];rfl,g2▸RStep.refl h⟩
 ·have hm:Sp.mayB addr=true:=by cases g:Sp.mayB addr with|true=>rfl|false=>exact absurd (.inl g) hb
  have hp7:perm≤7:=by omega
  cases hp:pageAt (rpgs R) addr with
  |some p=>
   have e:Sp.mapE (rpgs R) addr perm=9:=by unfold Sp.mapE;rw[if_neg hb,hp];rfl
   exact(map_have h addr perm h0 h1 p0 hp7 hm hp).mono fun x w' ⟨g1,g2⟩=>⟨lv,R,0,by rw[g1,e],by unfold Sp.mapA;rw[e];rfl,g2▸RStep.refl h⟩
  |none=>
   have e:Sp.mapE (rpgs R) addr perm=0:=by unfold Sp.mapE;rw[if_neg hb,hp];rfl
   refine(map_ok h addr perm h0 h1 p0 hp7 hm hp).mono ?_;rintro x w' ⟨p,lv',g1,g2,g3,g4,g5,g6⟩;refine⟨lv',insR p R,p.pg.blk,by rw[g1,e], ?_,⟨g4,g6.mono fun k _ g=>.inl g, ?_⟩⟩
   ·rw[rpgs_insR];unfold Sp.mapA;rw[if_pos e,←g2]
   ·rintro k (g|g|⟨q,hq,g⟩)
    ·exact .inl (.inl g)
    ·exact .inr (g5 k g)
    ·rcases mem_insR.1 hq with rfl|hq
     ·have a1:=g3.1;have a2:=g3.2;exact .inr (by rcases g with rfl|rfl<;>omega)
     ·exact .inl (.inr (.inr ⟨q,hq,g⟩))
end Rs
end Go.Proofs.YtnpicaigdfnmfaaGreat
namespace Go.Proofs.YtnpicaigdfnmfaaGreat.Rs
open Go.RowKit
theorem page_of{w:World}{rb:Nat}{lv:Value}{R:List Rp}(h:Rsp w rb lv R){x:Int}{p:Pg}(hp:pageAt (rpgs R) x=some p):∃q,q∈R∧q.pg=p∧p.addr=x - x % 256:=by
 have hm:=atAddr_mem hp;obtain⟨q,hq,rfl⟩:=List.mem_map.1 hm.1;exact⟨q,hq,rfl,hm.2⟩
theorem _root_.Go.Proofs.YtnpicaigdfnmfaaGreat.Sp.wrap64{x:Int}(h0:0≤x)(h1:x<18446744073709551616):IntKind.u64.wrap x=x:=by rw[IntKind.wrap_u64];omega
end Go.Proofs.YtnpicaigdfnmfaaGreat.Rs
namespace Go.Proofs.YtnpicaigdfnmfaaGreat
open Go.RowKit
def setRp(x v:Int)(q:Rp):Rp:= { q with pg:=setPg x v q.pg }
def setR(R:List Rp)(x v:Int):List Rp:=R.map (setRp x v)
theorem rpgs_setR(R:List Rp)(x v:Int):rpgs (setR R x v)=setByte (rpgs R) x v:=by
 unfold rpgs setR setByte;rw[List.map_map,List.map_map];rfl
theorem ptrs_setR(R:List Rp)(x v:Int):(setR R x v).map Rp.ptr=R.map Rp.ptr:=by
 unfold setR;rw[List.map_map];refine List.map_congr_left fun q _=> ?_
 show Value.pointer (some ⟨(setPg x v q.pg).blk,0,none⟩)=_
 rw[setPg_blk];rfl
theorem Rsp.foot_set{rb:Nat}{lv:Value}{R:List Rp}{x v:Int}{k:Nat}:Rsp.foot rb lv (setR R x v) k↔Rsp.foot rb lv R k:=by
 unfold Rsp.foot;refine or_congr Iff.rfl (or_congr Iff.rfl ⟨?_, ?_⟩)
 ·rintro⟨q',hq',h⟩;obtain⟨q,hq,rfl⟩:=List.mem_map.1 hq';exact⟨q,hq,by simpa [setRp,setPg_blk] using h⟩
 ·rintro⟨q,hq,h⟩;exact⟨setRp x v q,List.mem_map.2 ⟨q,hq,rfl⟩,by simpa [setRp,setPg_blk] using h⟩
theorem bb_ne_of{R:List Rp}(h:R.Pairwise fun p q=>p.bb≠q.bb):∀ {p q:Rp},p∈R→q∈R→p≠q→p.bb≠q.bb:=by
 induction R with
 |nil=>intro p q hp;simp at hp
 |cons a r ih=>
  intro p q hp hq he;rw[List.pairwise_cons] at h;rcases List.mem_cons.1 hp with rfl|hp'
  ·rcases List.mem_cons.1 hq with rfl|hq'
   ·exact absurd rfl he
   ·exact h.1 q hq'
  ·rcases List.mem_cons.1 hq with rfl|hq'
   ·exact fun e=>h.1 p hp' e.symm
   ·exact ih h.2 hp' hq' he
theorem rp_eq_of_up{R:List Rp}(h:(rpgs R).Pairwise fun p q=>p.addr<q.addr):∀ {p q:Rp},p∈R→q∈R→p.pg.addr=q.pg.addr→p=q:=by
 induction R with
 |nil=>intro p q hp;simp at hp
 |cons a r ih=>
  intro p q hp hq he;have h':(∀b,b∈rpgs r→a.pg.addr<b.addr)∧(rpgs r).Pairwise fun p q=>p.addr<q.addr:=List.pairwise_cons.1 h
  rcases List.mem_cons.1 hp with rfl|hp'
  ·rcases List.mem_cons.1 hq with rfl|hq'
   ·rfl
   ·have:=h'.1 q.pg (List.mem_map.2 ⟨q,hq',rfl⟩);omega
  ·rcases List.mem_cons.1 hq with rfl|hq'
   ·have:=h'.1 p.pg (List.mem_map.2 ⟨p,hp',rfl⟩);omega
   ·exact ih h'.2 hp' hq' he
theorem RPage.setByte{w:World}{q:Rp}(h:RPage w q){x v:Int}(hx:q.pg.addr=x - x % 256){j:Nat}(hj:x % 256=j)(v0:0≤v)(v1:v<256):RPage (w.setCell ⟨q.bb,j,none⟩ (.int .u8 v)) (setRp x v q):=by
 obtain⟨cur,hb,hs,hc⟩:=h.data;have hne:q.pg.blk≠q.bb:=by
  intro e;have:=h.page;rw[e,hb] at this;simp at this
 have hpl:=h.ok.len;have h1:=h.cap1;refine⟨?_,⟨_,heap_setCell_same w q.bb j cur _ _ hb,(Array.size_setIfInBounds ..).trans hs,fun i hi=> ?_⟩,h.cap1,h.cap2,setPg_ok x v q.pg h.ok v0 v1⟩
 ·show(w.setCell ⟨q.bb,j,none⟩ (.int .u8 v)).heap[(setPg x v q.pg).blk]? =some (.cells #[.int .u32 (setPg x v q.pg).addr,.int .u8 (setPg x v q.pg).perm,_] _ _)
  rw[setPg_blk,setPg_addr,setPg_perm,Below.heap_setCell _ _ _ _ hne];exact h.page
 ·have e:(setRp x v q).pg.bytes=q.pg.bytes.set j v:=by
   show(setPg x v q.pg).bytes=_
   unfold setPg;rw[if_pos (by simpa using hx),hj];rfl
  rw[e]
  by_cases g:i=j
  ·subst g;rw[Array.getElem?_setIfInBounds_self_of_lt (by omega)];simp[List.getD,hpl,hi]
  ·rw[Array.getElem?_setIfInBounds_ne (fun e=>g e.symm),hc i hi];simp only[List.getD];rw[List.getElem?_set_ne fun e=>g e.symm]
theorem setRp_other{x v:Int}{q:Rp}(h:q.pg.addr≠x - x % 256):setRp x v q=q:=by
 unfold setRp setPg;rw[if_neg (by simpa using h)]
theorem Rsp.setByte{w:World}{rb:Nat}{lv:Value}{R:List Rp}(h:Rsp w rb lv R){x v:Int}{p:Rp}(hp:p∈R)(hx:p.pg.addr=x - x % 256){j:Nat}(hj:x % 256=j)(v0:0≤v)(v1:v<256):
  Rsp (w.setCell ⟨p.bb,j,none⟩ (.int .u8 v)) rb lv (setR R x v):=by
 obtain⟨cur,hb,_⟩:=(h.pages p hp).data;have hne:∀k,k≠p.bb→(w.setCell ⟨p.bb,j,none⟩ (.int .u8 v)).heap[k]? =w.heap[k]? :=fun k hk=>Below.heap_setCell _ _ _ _ hk
 refine⟨?_, ?_, ?_, ?_, ?_⟩
 ·rw[hne]
  ·exact h.head
  ·intro e;have:=h.head;rw[e,hb] at this;simp at this
 ·have hl:(setR R x v).length=R.length:=List.length_map ..;rw[ptrs_setR,hl];exact row_keep h.list fun k hk=>hne k fun e=>own_ne h.list hb (by decide) (e▸hk)
 ·intro q' hq';obtain⟨q,hq,rfl⟩:=List.mem_map.1 hq'
  by_cases e:q.pg.addr=x - x % 256
  ·obtain rfl:q=p:=rp_eq_of_up h.up hq hp (by rw[e,hx]);exact(h.pages q hq).setByte e hj v0 v1
  ·rw[setRp_other e];refine(h.pages q hq).keep (hne _ fun g=> ?_) (hne _ (bb_ne_of h.bbs hq hp fun g=>e (by rw[g,hx])));have:=(h.pages q hq).page;rw[g,hb] at this;simp at this
 ·show(rpgs (setR R x v)).Pairwise _
  rw[rpgs_setR];unfold Proofs.YtnpicaigdfnmfaaGreat.setByte;rw[List.pairwise_map];have:=h.up;unfold rpgs
  simpa only[setPg_addr] using this
 ·unfold setR;rw[List.pairwise_map];exact h.bbs
def putR(R:List Rp)(addr:Int)(xs:List Int):Nat→List Rp
 |0=>R
 |k+1=>setR (putR R addr xs k) (addr+k) (xs.getD k 0)
theorem rpgs_putR(R:List Rp)(addr:Int)(xs:List Int)(k:Nat):rpgs (putR R addr xs k)=putN (rpgs R) addr xs k:=by
 induction k with
 |zero=>rfl
 |succ k ih=>show rpgs (setR _ _ _)=Proofs.YtnpicaigdfnmfaaGreat.setByte _ _ _;rw[rpgs_setR,ih]
theorem foot_putR{rb:Nat}{lv:Value}{R:List Rp}{addr:Int}{xs:List Int}{n k:Nat}:Rsp.foot rb lv (putR R addr xs n) k↔Rsp.foot rb lv R k:=by
 induction n with
 |zero=>exact Iff.rfl
 |succ n ih=>exact Rsp.foot_set.trans ih
namespace Rs
def pfRel(A:List Pg)(addr:Int)(n:Nat)(need:Int)(vi:Value):Prop:=∃k:Nat,k≤n∧vi=.int .i64 k∧Sp.fitsB A addr k need=true
def ppRel(rb:Nat)(lv:Value)(R:List Rp)(addr:Int)(s:ByteArray)(w:World)(vi:Value)(wr:World):Prop:=
 ∃k:Nat,k≤s.size∧vi=.int .i64 k∧Rsp wr rb lv (putR R addr (nums s) k)∧Mod (Rsp.foot rb lv R) w wr
theorem put_in{w:World}{rb:Nat}{lv:Value}{R:List Rp}(h:Rsp w rb lv R)(addr need:Int)(s:ByteArray)(h0:0≤addr)(h1:addr≤4294967295)(hn:s.size≤140737488355328)(n0:0≤need)(n1:need≤255):
  Calls Tryz.prog 84 #[.pointer (some ⟨rb,0,none⟩),.int .u32 addr,.string s,.int .u8 need] w fun e w'=>∃R',e=.returned (.int .i64 (Sp.fitsE (rpgs R) addr s.size need))∧rpgs R'=Sp.putA (rpgs R) addr need s∧RStep w w' rb lv R lv R':=by
 have HNo:Hid (Sp.fitsB (rpgs R) addr s.size need=false→∃R',Ending.returned (.int .i64 50)=.returned (.int .i64 (Sp.fitsE (rpgs R) addr s.size need))∧rpgs R'=Sp.putA (rpgs R) addr need s∧RStep w w rb lv R lv R'):=
  Lh fun g=>⟨R,by rw[Sp.fitsE_no g],by unfold Sp.putA;rw[g];rfl,RStep.refl h⟩
 have HYes:Hid (∀wr,Sp.fitsB (rpgs R) addr s.size need=true→Rsp wr rb lv (putR R addr (nums s) s.size)→Mod (Rsp.foot rb lv R) w wr→∃R',Ending.returned (.int .i64 0)=.returned (.int .i64 (Sp.fitsE (rpgs R) addr s.size need))∧rpgs R'=Sp.putA (rpgs R) addr need s∧RStep w wr rb lv R lv R'):=
  Lh fun wr g hr hm=>⟨_,by rw[Sp.fitsE_yes g],by unfold Sp.putA;rw[if_pos g,rpgs_putR],⟨hr,hm,fun k hk=>.inl (foot_putR.1 hk)⟩⟩
 generalize hPQ:(fun(e:Ending) w'=>∃R',e=.returned (.int .i64 (Sp.fitsE (rpgs R) addr s.size need))∧rpgs R'=Sp.putA (rpgs R) addr need s∧RStep w w' rb lv R lv R')=PQ at*;have HPQ:=Lh hPQ;have H:=Lh h;clear h hPQ;go_enter func84,ntmps84;go_wp2;go_loop [9,10] (fun vi _=>pfRel (rpgs R) addr s.size need vi) (fun vi _=>s.size - (intOf vi).toNat)
 case atStart=>exact⟨0,by omega,rfl,rfl⟩
 case round=>
  obtain⟨k,hk,rfl,hfit⟩:=hrel;have Hf:=Lh hfit;clear hfit
  by_cases hk2:k<s.size
  ·cases hp:pageAt (rpgs R) (addr+k) with
   |none=>
    have Hno:=Lh (HNo.out (Sp.fitsB_false (A:=rpgs R) (need:=need) hk2 (by unfold Sp.okAt;rw[hp])));have Hof:Hid _:=Lh (of_none H.out (addr+k) (by omega) (by omega) hp);clear hp;go_wp2_with (go_at_call 128;(with_reducible refine Hof.out.mono ?_);rintro e w1 ⟨rfl,rfl⟩);rw[←HPQ.out];exact Hno.out
   |some p=>
    obtain⟨q,hq,rfl,hpa⟩:=page_of H.out hp;obtain⟨c0,c1,c2⟩:=(H.out.pages q hq).cells;have hok:=(H.out.pages q hq).ok;have b1:=hok.a1;have hof:=of_some H.out (addr+k) (by omega) (by omega) hp;have Hof:=Lh hof
    by_cases hb:(bits .and .u8 q.pg.perm need == need)=true
    ·have Hs:=Lh (show Sp.fitsB (rpgs R) addr (k+1) need=true by rw[Sp.fitsB_succ,Hf.out];unfold Sp.okAt;rw[hp];simpa using hb);have hb2:(bits .and .u8 q.pg.perm need != need)=false:=by rw[bne,hb];rfl
     clear hp hb hof hok hpa;go_wp2_with (go_at_call 128;(with_reducible refine Hof.out.mono ?_);rintro e w1 ⟨rfl,rfl⟩);go_round
     case rel=>exact⟨k+1,by omega,by go_num,Hs.out⟩
     case measure=>simp[intOf]<;>omega
    ·have hb':(bits .and .u8 q.pg.perm need == need)=false:=by simpa using hb
     have Hno:=Lh (HNo.out (Sp.fitsB_false (A:=rpgs R) (need:=need) hk2 (by unfold Sp.okAt;rw[hp];exact hb')));have hb2:(bits .and .u8 q.pg.perm need != need)=true:=by rw[bne,hb'];rfl
     clear hp hb hb' hof hok hpa;go_wp2_with (go_at_call 128;(with_reducible refine Hof.out.mono ?_);rintro e w1 ⟨rfl,rfl⟩);rw[←HPQ.out];exact Hno.out
  ·obtain rfl:k=s.size:=by omega
   go_wp2;go_loopw [11,12,13] (fun vi _ _ wr=>ppRel rb lv R addr s w vi wr) (fun vi _ _ _=>s.size - (intOf vi).toNat)
   case atStart=>exact⟨0,by omega,rfl,H.out,Mod.refl _ _⟩
   case round=>
    obtain⟨k,hk,rfl,hsp,hm⟩:=hrel;have Hm:=Lh hm;have HS:=Lh hsp
    by_cases hk2:k<s.size
    ·have hokk:=Sp.fitsB_at hk2 Hf.out;cases hp0:pageAt (rpgs R) (addr+k) with
     |none=>unfold Sp.okAt at hokk;rw[hp0] at hokk;cases hokk
     |some p0=>
      obtain⟨p,hp,hpb,hpp,hpa⟩:=pageAt_putN_some hp0 addr (nums s) k;rw[←rpgs_putR] at hp;obtain⟨q,hq,rfl,hqa⟩:=page_of hsp hp;have hpg:=hsp.pages q hq;have hok:=hpg.ok;have b0:=hok.a0;have b1:=hok.a1;obtain⟨c0,c1,c2⟩:=hpg.cells;have Hof:=Lh (of_some hsp (addr+k) (by omega) (by omega) hp);obtain⟨j,hj⟩:∃j:Nat,addr+(k:Int) - q.pg.addr=j:=⟨(addr+(k:Int) - q.pg.addr).toNat,by omega⟩;have hcb:=hpg.byte j (by omega);have hfr:=hpg.free j;have hxb:=byte_bd (s[k]'hk2);rw[nums_get s k hk2] at hxb;have Hst:Hid (Rsp (wr.setCell ⟨q.bb,j,none⟩ (.int .u8 ((nums s).getD k 0))) rb lv (putR R addr (nums s) (k+1))):=Lh (hsp.setByte hq hqa (show(addr+(k:Int)) % 256=j by omega) hxb.1 hxb.2);have Hft:Hid (Rsp.foot rb lv R q.bb):=Lh (foot_putR.1 (.inr (.inr ⟨q,hq,.inr rfl⟩)));have c16:=hpg.cap2;have c15:=hpg.cap1;unfold maxLen at c16;have hix:∀w,(Instr.index 9 (.string s) (.int .i64 k)).run Tryz.prog w=.ok (.int .u8 ((nums s).getD k 0)) w:=by rw[←nums_get s k hk2];intro w;go_simp
      clear hp hpg hok hokk hp0 hsp hm hpb hpp hpa;generalize (nums s).getD k 0=x at*;generalize q.pg.perm=qp at*;generalize q.pg.addr=qa at*;generalize q.pg.bytes.getD j 0=xo at*;generalize hqb:q.pg.blk=qb at*;generalize hqc:q.bb=qc at*;generalize hqd:q.cap=qd at*;clear hqb hqc hqd;have x1:IntKind.u64.wrap addr=addr:=Sp.wrap64 (by omega) (by omega);have x2:IntKind.u64.wrap (k:Int)=k:=Sp.wrap64 (by omega) (by omega);have x3:IntKind.u64.wrap (addr+(k:Int))=addr+k:=Sp.wrap64 (by omega) (by omega);have x4:IntKind.u64.wrap qa=qa:=Sp.wrap64 (by omega) (by omega);have x5:IntKind.u64.wrap (addr+(k:Int) - qa)=j:=by rw[hj];exact Sp.wrap64 (by omega) (by omega)
      have x6:(j:Int)<256:=by omega
      have Hpa:=Lh hqa;have Hj:=Lh hj;clear hqa hj;go_wp2_with (go_at_call 128;(with_reducible refine Hof.out.mono ?_);rintro e w1 ⟨rfl,rfl⟩);go_region
      all_goals
       go_wp2;refine⟨⟨k+1,by omega,by go_num,Hst.out.same Br.drew,(Hm.out.setCell _ (.inl Hft.out) _).drew⟩,by simp[intOf];omega⟩
    ·obtain rfl:k=s.size:=by omega
     have Hy:=Lh (HYes.out wr Hf.out hsp hm);clear hsp hm;go_wp2;rw[←HPQ.out];exact Hy.out
end Rs
end Go.Proofs.YtnpicaigdfnmfaaGreat
