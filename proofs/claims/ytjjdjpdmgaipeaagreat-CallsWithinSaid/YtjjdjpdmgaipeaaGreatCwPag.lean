/- Pag, RspE in one text. -/
import Derived.RangeFuncBox
import Derived.RangeFuncLeaves
import Derived.RangeFuncBound
import Derived.Shelf.Abstract
import Derived.OwnWalkIn
import Derived.TacticsInMore
import Derived.RegionIn
import Derived.LoopNIn
import Derived.LoopIn
import Derived.Maps.AppendAt
import Derived.Sort.MapsRangeIn
import Derived.Test.YtjjdjpdmgaipeaaGreatCwSrt
import Derived.Test.YtjjdjpdmgaipeaaGreatCwSpcW
import Derived.Test.YtjjdjpdmgaipeaaGreatCwRsp
import Derived.Test.YtjjdjpdmgaipeaaGreatCwZa
set_option linter.unusedVariables false
set_option linter.unusedSimpArgs false
set_option maxRecDepth 100000
set_option maxHeartbeats 16000000
open Go.Proofs.Tryz
namespace Go.Proofs.YtjjdjpdmgaipeaaGreat.Pag
open Go.RowKit Go.Maps Go.Shelf
attribute [local go_sem] Oper.semAt_some
abbrev encU:Int→Value:=Value.int .u32
theorem encU_inj{x y:Int}(h:encU x=encU y):x=y:=by simpa [encU] using h
theorem keyOf_u32{P:Program}{k:TypeId}(hk:P.underlying k=some (.int .u32)){key:Value}{kl:Lit}(h:keyOf P k key=some kl):∃x:Int,key=encU x∧kl=.int .u32 x∧(Lit.int .u32 x).wf=true:=by
 cases key<;>simp[keyOf,hk,mapKey] at h
 rename_i q a
 obtain⟨⟨rfl,hw⟩,rfl⟩:=h;exact⟨a,rfl,rfl,hw⟩
def Come{H:Type}(D0:DataW H)(left:Lit→Bool)(ss:List Int):Prop:=ss.Nodup∧∀x,x∈ss↔(has D0 (.int .u32 x)=true∧left (.int .u32 x)=false)
section
variable {H:Type} {D0:DataW H} {left:Lit→Bool} {ss:List Int}
theorem Come.start(D0:DataW H):Come D0 (has D0) []:=⟨List.nodup_nil,fun x=>by cases has D0 (.int .u32 x)<;>simp⟩
theorem Come.step(h:Come D0 left ss){x:Int}{y:DataW H}(hlk:left (.int .u32 x)=true)(hat:∀zd,D0.atKey (.int .u32 x) zd=y):Come D0 (fun z=>left z&& !z.sameKey (.int .u32 x)) (ss++[x]):=by
 have hhas:has D0 (.int .u32 x)=true:=has_true_of_atKey hat
 have hnew:x∉ss:=by
  intro hx;have:=((h.2 x).1 hx).2;rw[hlk] at this;cases this
 refine⟨List.nodup_append.2 ⟨h.1,by simp, ?_⟩,fun y=> ?_⟩
 ·intro a ha b hb e;simp at hb;subst hb;exact hnew (e▸ha)
 ·by_cases hy:y=x
  ·subst hy;simp[hhas,Lit.sameKey]
  ·simp[h.2 y,hy,Lit.sameKey]
end
theorem keys1{H:Type}(n:Nat)(hn:1≤n)(l Bm b nn:Nat)(D0:DataW H){R:Value→Option (DataW H×List MemPlace)}(J Jx:List Int→World→Prop)
  (hY:∀pre x W,J pre W→pre.length<Maps.size D0→YieldAt Fence.wide (n - 1) Tryz.prog l #[encU x] W fun e W'=>(e=.returned (.bool true)∧J (pre++[x]) W'∧KeepsWalks W W')∨(e=.returned (.bool false)∧Jx (pre++[x]) W'))
  (W:World) (hJ:AbidesFrom W.heap.size J) (hm:W.cell? ⟨Bm,0,none⟩=some (.map (some b))) (hown:W.ownsMap Tryz.prog 22 R b nn D0) (h0:J [] W):
  CallsIn Fence.wide n Tryz.prog 255 #[.func (.yield l) #[] #[],.pointer (some ⟨Bm,0,none⟩)] W fun e W'=>(∃v,e=.returned v)∧
   ((∃ss:List Int,(ss.Nodup∧∀x,x∈ss↔has D0 (.int .u32 x)=true)∧J ss W')∨(∃pre:List Int,pre.Nodup∧Jx pre W')):=by
 have hK:=int_keyed (P:=Tryz.prog) Tryz.underlying22;refine callsIn_of_wp func255 rfl trivial ?_ rfl;simp only[ntmps255,List.size_toArray,List.length_cons,List.length_nil,Nat.reduceAdd,Nat.reduceSub,Array.replicate_succ,Array.replicate_zero,List.push_toArray,List.append_toArray,List.nil_append,List.cons_append]
 gi_wp2_with (first
  |(gi_at_range;refine wpListIn_range_own _ rfl _ 249 rfl 22 250 hK Tryz.underlying249 _ b nn _ rfl hown ?_;intro w0 hrg0 hg0 hs0)
  |gi_in)
 go_frame
 gi_loopw [3] (fun _ wr=>∃(left:Lit→Bool) (cnt:Nat) (ss:List Int),wr.ranges Tryz.prog 22 R b W.heap.size nn D0 left cnt∧ss.length+cnt≤Maps.size D0∧Come D0 left ss∧J ss wr)
  (fun _ wr=>wr.rangeLeft b W.heap.size)
 case atStart=>exact⟨_,_,[],hrg0,by simp,Come.start D0,hJ [] W w0 none h0 hg0 (fun r e=>by cases e)⟩
 case round=>
  obtain⟨left,cnt,ss,hrg,hcs,hC,hJs⟩:=hrel
  gi_wp2_with (first
   |(gi_at_next;refine wpListIn_next_ranges _ rfl _ rfl 22 hK R encU id (fun key kl hk=>by obtain⟨x,hx,_⟩:=keyOf_u32 Tryz.underlying22 hk;exact⟨x,hx⟩) (fun v _ _=>⟨v,rfl⟩) b W.heap.size nn _ _ _ rfl hrg ?_ ?_)
   |gi_in)
  ·intro hc0 hl0
   gi_wp2
   go_end0;exact⟨⟨_,rfl⟩,.inl ⟨ss,⟨hC.1,fun x=>by rw[hC.2 x,hl0];simp⟩,hJs⟩⟩
  ·intro x c kl yd yp w2 cnt2 hkey hlk hv hat hrg2 hlt hg2 hs2 hen;obtain⟨x',ex,rfl,_⟩:=keyOf_u32 Tryz.underlying22 hkey;obtain rfl:x=x':=encU_inj ex;have hJ2:J ss w2:=hJ ss wr w2 (some W.heap.size) hJs hg2 (fun r e=>by cases e;exact⟨Nat.le_refl _,hrg.iter_walk⟩);obtain⟨fn,tmps,assign,body,hy,hR⟩:=hY ss x w2 hJ2 (by omega);clear hs2
   gi_wp2
   refine hR.mono ?_;have hC2:=hC.step hlk hat
   rintro e W3 (⟨rfl,hJ3,hk3⟩|⟨rfl,hJx3⟩)
   ·gi_wp2
    have hrg3:=hrg2.of_walks hk3;go_roundw
    case rel=>exact⟨_,cnt2,ss++[x],hrg3,by simp;omega,hC2,hJ3⟩
    case measure=>rw[hrg3.left_eq,hrg.left_eq];exact hlt
   ·gi_wp2
    refine bodyPost_ret (results_none rfl _ _ _) rfl ?_;exact⟨⟨_,rfl⟩,.inr ⟨ss++[x],hC2.1,hJx3⟩⟩
theorem keys_stops{H:Type}(n:Nat)(hn:1≤n)(Bm b nn:Nat)(D0:DataW H){R:Value→Option (DataW H×List MemPlace)}(w:World)(hBm:Bm<w.heap.size)(hm:w.cell? ⟨Bm,0,none⟩=some (.map (some b)))(hown:w.ownsMap Tryz.prog 22 R b nn D0):
  SeqStopsK Fence.wide n Tryz.prog 255 #[.pointer (some ⟨Bm,0,none⟩)] (fun x:Int=> #[encU x]) KeepsWalks (fun ss=>ss.Nodup∧∀x,x∈ss↔has D0 (.int .u32 x)=true) (fun pre=>pre.Nodup) (Maps.size D0) w:=fun l J Jx W hW hJ _ hY h0=>by
 have hown':W.ownsMap Tryz.prog 22 R b nn D0:=by
  have hbl:=hown.lt;obtain⟨es,clock,hb,rest⟩:=hown;exact⟨es,clock,(hW.block b hbl).trans hb,rest⟩
 exact keys1 n hn l Bm b nn D0 J Jx hY W hJ ((hW.cell (p:=⟨Bm,0,none⟩) hBm).trans hm) hown' h0
theorem keys(n:Nat)(mb:Option Nat)(w:World):CallsIn Fence.wide n Tryz.prog 156 #[.map mb] w fun e w'=>e=.returned (.func (.func 255) #[] #[.pointer (some ⟨w.heap.size,0,none⟩)])∧w'=w.alloc (.cells #[.map mb] 249):=by
 refine callsIn_of_wp func156 rfl trivial ?_ rfl;simp only[ntmps156,List.size_toArray,List.length_cons,List.length_nil,Nat.reduceAdd,Nat.reduceSub,Array.replicate_succ,Array.replicate_zero,List.push_toArray,List.append_toArray,List.nil_append,List.cons_append]
 gi_wp2
 go_ret;exact⟨rfl,rfl⟩
theorem infoU32:(Tryz.prog.info? 22).map (fun i=>(i.zero,i.size,i.bytes))=some (some (.int .u32 0),1,4):=by kernel_rfl
theorem appendSeq(n:Nat)(hn:2≤n)(g:Nat)(lb:Array Value)(eg:∀args w,(callFunc g args).run Tryz.prog w=.ok (.enter g args) w)(S Sp:List Int→Prop)(N:Nat)(hN:N≤maxLen)(hNb:N*4≤140737488355328)(w:World)
  (hseq:SeqStopsK Fence.wide (n - 1) Tryz.prog g lb (fun x:Int=> #[encU x]) KeepsWalks S Sp N w) (hSN:∀ss,S ss→ss.length≤N):
  CallsIn Fence.wide n Tryz.prog 308 #[.slice none 0 0,.func (.func g) #[] lb] w fun e w'=>∃(v:Value) (ss:List Int),e=.returned v∧S ss∧w'.ownsRow w.heap.size 22 1 v ss.length (ss.map encU)∧Below w.heap.size w w':=by
 have h1:1≤n:=by omega
 obtain⟨i0,hi,hz0,hz1,hz2⟩:=info_parts infoU32;refine callsIn_of_wp_marks func308 rfl trivial ?_ rfl;simp only[ntmps308,List.size_toArray,List.length_cons,List.length_nil,Nat.reduceAdd,Nat.reduceSub,Array.replicate_succ,Array.replicate_zero,List.push_toArray,List.append_toArray,List.nil_append,List.cons_append]
 gi_wp2
 have bO:=Boxed.new w 23 (.slice none 0 0);have hB0:Below w.heap.size w (w.alloc (.cells #[.slice none 0 0] 23)):=(Below.refl _ w).alloc (Nat.le_refl _) _;refine wpIn_rangeFunc_ownG rfl h1 (gf:=g) (lb:=lb) rfl trivial eg hseq walksK_t walksK_b hB0 (fun _=>rfl)
  (fun pre W=>(∃v,Boxed W w.heap.size 23 v∧W.ownsRow w.heap.size 22 1 v pre.length (pre.map encU)∧(v=.slice none 0 0↔pre=[]))∧Below w.heap.size w W)
  (fun _ _ _=>False)
  (OwnFrom.and (Own.from (holdsRow_own w.heap.size w.heap.size 23 22 1 (fun pre=>pre.length) (fun pre=>pre.map encU) (fun pre v=>v=.slice none 0 0↔pre=[])) _) (ownFrom_below (Nat.le_refl _) (by simp)))
  (fun _ _ _ _ _ hs _ _=>hs)
  ⟨⟨_,bO,World.ownsRow_nil _ _ _ _,by simp⟩,hB0⟩
  (fun x=> { tmps:= #[.slice none 0 0,.func (.func g) #[] lb,.pointer (some ⟨w.heap.size,0,none⟩),undef,.slice none 0 0,encU x,.func (.func g) #[] lb,encU x,undef,undef,undef,undef,undef],defers:=[] }) ?assign ?body ?done ?stop
 case assign=>
  intro l x W K hK
  gi_wp2
  exact hK
 case body=>
  rintro l pre x W ⟨⟨v,hv,hrow,hnil⟩,hB⟩ hlt;have hc:=hv.cell
  gi_wp2_with (gi_at_builtin;refine wpListIn_append_own _ rfl _ _ 23 rfl w.heap.size 22 i0 (.int .u32 0) 1 4 Tryz.underlying23 hi hz0 hz1 hz2 rfl (by decide) _ _ _ rfl (hrow.alloc _) ⟨W.heap.size,0,none⟩ 1 1 [encU x] rfl rfl (cell_one_new _ _ _) (by simp[Value.oneCell',encU]) (by omega) (by omega) (by have:=hB.size;simp;omega) ?_;intro v' w1 hown' hgrow _;obtain⟨g',cap',rfl⟩:=ownsRow_succ hown';obtain⟨hv1,hv2,hr2,hk2,hb2⟩:=hv.appended (by decide) hrow hB.size (Nat.le_refl _) hown' hgrow;have hc1:=hv1.cell;have hf1:=hv1.frozen)
  exact⟨hk2.from _,hk2.walks,⟨_,hv2,by simpa using hr2,by simp⟩,hB.trans hb2⟩
 case done=>
  rintro D ys W hD hys ⟨⟨v,hv,hrow,hnil⟩,hB⟩ hK;have hc:=hv.cell
  gi_wp2
  refine⟨by simp,.inl ⟨_,_,rfl,run_takeDeferred hK, ?_⟩⟩;exact⟨_,results_tmp rfl _ _ _,v,ys,rfl,hys,ownsRow_putObj hrow _ hK rfl,hB.trans (belowK_b (w:=w) (Nat.le_refl _) W D _ _ (by simp at hD;omega) hK rfl rfl)⟩
 case stop=>
  rintro D c pre W _ _ h _;exact h.elim
theorem collect(n:Nat)(hn:3≤n)(g:Nat)(lb:Array Value)(eg:∀args w,(callFunc g args).run Tryz.prog w=.ok (.enter g args) w)(S Sp:List Int→Prop)(N:Nat)(hN:N≤maxLen)(hNb:N*4≤140737488355328)(w:World)
  (hseq:SeqStopsK Fence.wide (n - 1 - 1) Tryz.prog g lb (fun x:Int=> #[encU x]) KeepsWalks S Sp N w) (hSN:∀ss,S ss→ss.length≤N):
  CallsIn Fence.wide n Tryz.prog 253 #[.func (.func g) #[] lb] w fun e w'=>∃(v:Value) (ss:List Int),e=.returned v∧S ss∧w'.ownsRow w.heap.size 22 1 v ss.length (ss.map encU)∧Below w.heap.size w w':=by
 have h1:1≤n:=by omega
 refine callsIn_of_wp func253 rfl trivial ?_ rfl;simp only[ntmps253,List.size_toArray,List.length_cons,List.length_nil,Nat.reduceAdd,Nat.reduceSub,Array.replicate_succ,Array.replicate_zero,List.push_toArray,List.append_toArray,List.nil_append,List.cons_append];have hc:=appendSeq (n - 1) (by omega) g lb eg S Sp N hN hNb w hseq hSN;have hf:Fence.wide.fn 308:=trivial
 gi_wp2_with (gi_at_call 308;refine hc.mono ?_;rintro e w' ⟨v,ss,rfl,hS,hrow,hb⟩)
 go_ret;exact⟨v,ss,rfl,hS,hrow,hb⟩
def SortedPost(w:World)(S:List Int→Prop)(e:Ending)(w':World):Prop:=
 ∃(v:Value) (ss:List Int),e=.returned v∧(∃ys,S ys∧ss.Perm ys)∧ss.Pairwise (fun x y=>x≤y)∧w'.ownsRow w.heap.size 22 1 v ss.length (ss.map encU)∧Below w.heap.size w w'
theorem sw_of_row{w':World}{gb cap:Nat}{cur:Array Value}{ss:List Int}(hg:w'.heap[gb]? =some (.cells cur 22 (0,0)))(hs:cur.size=cap*1)(ht:cur.toList.take (ss.length*1)=ss.map encU):Srt.SW w' w' gb 0 22 cur.size ss.toArray:=by
 refine⟨Mod.refl _ _,cur,hg,rfl,fun j hj=> ?_⟩;simp at hj;have h2:(cur.toList.take (ss.length*1))[j]? =(ss.map encU)[j]? :=by rw[ht]
 rw[List.getElem?_take_of_lt (by omega),List.getElem?_map,Zg hj] at h2;rw[Nat.zero_add,getElem!_pos ss.toArray j (by simpa using hj)]
 simpa using h2
theorem sortedIn_pairwise{d:Array Int}{n:Nat}(hn:d.size=n)(h:Sort.SortedIn Sort.ltInt 0 n d):d.toList.Pairwise (fun x y=>x≤y):=by
 rw[List.pairwise_iff_getElem];intro i j hi hj hij;have:=h i j (Nat.zero_le _) hij (by simpa [hn] using hj);rw[getElem!_pos d j (by simpa using hj),getElem!_pos d i (by simpa using hi)] at this;simp[Sort.ltInt] at this
 simpa using this
theorem perm_of_permIn{d d':Array Int}(h:Sort.PermIn 0 d.size d d'):d'.toList.Perm d.toList:=by
 have:=h.2.2;rw[show d'.extract 0 d.size=d' by rw[←h.1];simp,show d.extract 0 d.size=d by simp] at this;exact this
theorem ins_none(w:World):Calls Tryz.prog 334 #[.slice none 0 0,.int .i64 0,.int .i64 0] w fun e w'=>e=.returned (.tuple #[])∧w=w':=by
 go_enter func334,ntmps334;go_wp2;refine wp_loop_rounds 1 ?_;rw[rounds_succ];go_wp2;go_end0;exact⟨rfl,rfl⟩
theorem pdq_none(k:Int)(w:World):Calls Tryz.prog 309 #[.slice none 0 0,.int .i64 0,.int .i64 0,.int .i64 k] w fun e w'=>e=.returned (.tuple #[])∧w=w':=by
 go_enter func309,ntmps309;go_wp2;refine wp_loop_rounds 1 ?_;rw[rounds_succ];go_wp2_with (go_at_call 334;(with_reducible refine(ins_none _).mono ?_);rintro x w1 ⟨rfl,rfl⟩)
 (try simp only[Exit.inBlock,Exit.then]);refine bodyPost_ret (results_none rfl _ _ _) rfl ?_
 exact⟨rfl,rfl⟩
theorem sort_none(w:World):Calls Tryz.prog 254 #[.slice none 0 0] w fun e w'=>e=.returned (.tuple #[])∧w=w':=by
 have hl:∀w,Calls Tryz.prog 310 #[.int .u64 0] w fun e w'=>e=.returned (.int .i64 0)∧w=w':=fun w=>Srt.bitsLen_any 0 (by omega) w
 go_enter func254,ntmps254;go_wp2_with (first|(go_at_call 310;(with_reducible refine(hl _).mono ?_);rintro x w' ⟨rfl,rfl⟩)|(go_at_call 309;(with_reducible refine(pdq_none _ _).mono ?_);rintro x w' ⟨rfl,rfl⟩));go_end0;exact⟨rfl,rfl⟩
theorem sorted(n:Nat)(hn:4≤n)(g:Nat)(lb:Array Value)(eg:∀args w,(callFunc g args).run Tryz.prog w=.ok (.enter g args) w)(S Sp:List Int→Prop)(N:Nat)(hN:N<65536)(w:World)
  (hseq:SeqStopsK Fence.wide (n - 1 - 1 - 1) Tryz.prog g lb (fun x:Int=> #[encU x]) KeepsWalks S Sp N w) (hSN:∀ss,S ss→ss.length≤N):
  CallsIn Fence.wide n Tryz.prog 155 #[.func (.func g) #[] lb] w (SortedPost w S):=by
 have h1:1≤n:=by omega
 refine callsIn_of_wp func155 rfl trivial ?_ rfl;simp only[ntmps155,List.size_toArray,List.length_cons,List.length_nil,Nat.reduceAdd,Nat.reduceSub,Array.replicate_succ,Array.replicate_zero,List.push_toArray,List.append_toArray,List.nil_append,List.cons_append];have hc:=collect (n - 1) (by omega) g lb eg S Sp N (by unfold maxLen;omega) (by omega) w hseq hSN;have hf:Fence.wide.fn 253:=trivial;have hf2:Fence.wide.fn 254:=trivial
 gi_wp2_with (gi_at_call 253;refine hc.mono ?_;rintro e W ⟨v,ss,rfl,hS,hrow,hb⟩)
 have hlen:=hSN ss hS;rcases hrow.2 with⟨rfl,hz⟩|⟨gb,cap,cur,rfl,hbase,hgb,r1,r2,r3,r4⟩
 ·obtain rfl:ss=[]:=List.eq_nil_of_length_eq_zero hz;have hso:=callsIn_wide (n:=n - 1)|>.2 (sort_none W)
  gi_wp2_with (gi_at_call 254;refine hso.mono ?_;rintro e w' ⟨rfl,rfl⟩)
  go_ret;exact⟨_,[],rfl,⟨[],hS,.refl _⟩,.nil,hrow,hb⟩
 ·have hsw:=sw_of_row hgb r3 r4;have hso:=callsIn_wide (n:=n - 1)|>.2 (Srt.sort hsw cap ss.length (by simp) (by omega))
  gi_wp2_with (gi_at_call 254;refine hso.mono ?_;rintro e w' ⟨d',rfl,p1,p2,p3⟩)
  go_ret;have hsz:ss.toArray.size=ss.length:=by simp
  have hd:d'.size=ss.length:=p1.1;have hpp:=perm_of_permIn (by rw[hsz];exact p1);refine⟨_,d'.toList,rfl,⟨ss,hS,hpp⟩,sortedIn_pairwise hd p2, ?_, ?_⟩
  ·obtain⟨cur',hb',hs',hc'⟩:=p3.row;have hdl:d'.toList.length=ss.length:=by rw[Array.length_toList];exact hd
   refine⟨by rw[List.length_map];omega,.inr ⟨gb,cap,cur',by rw[hdl];rfl,hbase,hb',by omega,r2,by rw[hs',r3], ?_⟩⟩
   apply List.ext_getElem?
   intro j
   by_cases hj:j<ss.length
   ·rw[List.getElem?_take_of_lt (by omega),List.getElem?_map,Array.getElem?_toList,Array.getElem?_toList];have:=hc' j (by omega);rw[Nat.zero_add] at this;rw[this,getElem!_pos d' j (by omega),Array.getElem?_eq_getElem (by omega)];rfl
   ·rw[List.getElem?_eq_none (by rw[List.length_take];omega),List.getElem?_eq_none (by rw[List.length_map];omega)]
  ·exact Mod.below hb p3.mod hb.size fun k _ hk=>by subst hk;exact hbase
theorem rising_eq{l l':List Int}(h:l.Perm l')(h1:l.Pairwise (fun x y=>x≤y))(h2:l'.Pairwise (fun x y=>x≤y)):l=l':=
 List.Perm.eq_of_pairwise (le:=fun a b=>a≤b) (fun a b _ _ g1 g2=>Int.le_antisymm g1 g2) h1 h2 h
theorem row_base{W:World}{base base':Nat}{e:TypeId}{size:Nat}{v:Value}{k:Nat}{xs:List Value}(h:W.ownsRow base e size v k xs)(hb:base'≤base):W.ownsRow base' e size v k xs:=by
 obtain⟨hl,h⟩:=h;refine⟨hl,h.imp id ?_⟩;rintro⟨g,cap,cur,rfl,g1,rest⟩;exact⟨g,cap,cur,rfl,Nat.le_trans hb g1,rest⟩
def addrs(A:List Pg):List Int:=A.map (·.addr)
theorem mem_addrs{A:List Pg}{x:Int}:x∈addrs A↔(atAddr A x).isSome=true:=by
 constructor
 ·intro h;cases hx:atAddr A x with
  |some p=>rfl
  |none=>
   obtain⟨p,hp,e⟩:=List.mem_map.1 h;exact absurd e (atAddr_none hx p hp)
 ·intro h;obtain⟨p,hp⟩:=Option.isSome_iff_exists.1 h;have:=atAddr_mem hp;exact List.mem_map.2 ⟨p,this.1,this.2⟩
theorem addrs_up{A:List Pg}(h:A.Pairwise fun p q=>p.addr<q.addr):(addrs A).Pairwise (fun x y=>x≤y)∧(addrs A).Nodup:=by
 constructor
 ·exact List.pairwise_map.2 (h.imp fun g=>by omega)
 ·exact List.pairwise_map.2 (h.imp fun g=>by omega)
def PagesPost(A:List Pg)(w:World)(e:Ending)(w':World):Prop:=∃v:Value,e=.returned v∧w'.ownsRow w.heap.size 22 1 v A.length ((addrs A).map encU)∧Below w.heap.size w w'
theorem pages{w:World}{sb mb:Nat}{A:List Pg}(h:Spc w sb mb A):Calls Tryz.prog 49 #[.pointer (some ⟨sb,0,none⟩)] w (PagesPost A w):=by
 refine(callsIn_wide (n:=7)).1 ?_;have hc:=h.cellHead;have hmbl:=h.lt (.inr (.inl rfl));obtain⟨D,n,ho,hv,hs⟩:=h.map;have hln:=h.len;have hh:∀x,has D (.int .u32 x)=(atAddr A x).isSome:=by
  intro x;cases hx:atAddr A x with
  |some p=>exact has_true_of_atKey (y:=.lit (.int .i64 p.blk)) fun zd=>by rw[hv,hx]
  |none=>exact has_false_of_atKey fun z=>by rw[hv,hx]
 have hbel:Below w.heap.size w (w.alloc (.cells #[.map (some mb)] 249)):=(Below.refl _ w).alloc (Nat.le_refl _) _;have hst:=keys_stops (R:=ptrElem) 3 (by omega) w.heap.size mb n D (w.alloc (.cells #[.map (some mb)] 249)) (by simp) (by simp) (by
  obtain⟨es,clock,hb,rest⟩:=ho;exact⟨es,clock,(hbel.block mb hmbl).trans hb,rest⟩)
 have hup:=addrs_up h.up;have hperm:∀ss:List Int,(ss.Nodup∧∀x,x∈ss↔has D (.int .u32 x)=true)→ss.Perm (addrs A):=fun ss g=>(List.perm_ext_iff_of_nodup g.1 hup.2).2 fun x=>by rw[g.2,hh,mem_addrs]
 have cS:=sorted 6 (by omega) 255 #[.pointer (some ⟨w.heap.size,0,none⟩)] (enters_of func255 (by kernel_rfl) rfl) _ _ (Maps.size D) (by omega) _ hst (fun ss g=>by
  have:=(hperm ss g).length_eq;unfold addrs at this;rw[List.length_map] at this;omega)
 have cK:=fun mb W=>keys 6 mb W
 have hfK:Fence.wide.fn 156:=trivial;have hfS:Fence.wide.fn 155:=trivial;clear h hs hln hv ho hh hst;refine callsIn_of_wp func49 rfl trivial ?_ rfl;simp only[ntmps49,List.size_toArray,List.length_cons,List.length_nil,Nat.reduceAdd,Nat.reduceSub,Array.replicate_succ,Array.replicate_zero,List.push_toArray,List.append_toArray,List.nil_append,List.cons_append]
 gi_wp2_with (first
  |(gi_at_call 156;refine(cK _ _).mono ?_;rintro e w' ⟨rfl,rfl⟩)
  |(gi_at_call 155;refine cS.mono ?_;rintro e w' ⟨v,ss,rfl,⟨ys,hys,hp⟩,hpw,hrow,hb⟩))
 go_ret;have e:=rising_eq (hp.trans (hperm ys hys)) hpw hup.1;subst e;have hl:(addrs A).length=A.length:=by unfold addrs;rw[List.length_map]
 rw[hl] at hrow;exact⟨_,rfl,row_base hrow (by simp),hbel.trans (hb.mono (by simp))⟩
end Go.Proofs.YtjjdjpdmgaipeaaGreat.Pag
namespace Go.Proofs.YtjjdjpdmgaipeaaGreat
open Go.RowKit
theorem rsp_nil{w:World}{rb:Nat}(h:w.heap[rb]? =some (.cells #[.slice none 0 0] 281 (0,0))):Rsp w rb (.slice none 0 0) []:=
 ⟨h,World.ownsRow_nil _ _ _ _,fun q hq=>by simp at hq,.nil,.nil⟩
end Go.Proofs.YtjjdjpdmgaipeaaGreat
namespace Go.Proofs.YtjjdjpdmgaipeaaGreat.Rs
open Go.RowKit Pag
def pgsRel(w:World)(R:List Rp)(vl vi:Value)(wr:World):Prop:=
 ∃i:Nat,vi=.int .i64 i∧i≤R.length∧Below w.heap.size w wr∧wr.ownsRow w.heap.size 22 1 vl i ((addrs (rpgs (R.take i))).map encU)
theorem addrs_snoc(l:List Rp)(q:Rp):(addrs (rpgs (l++[q]))).map encU=(addrs (rpgs l)).map encU++[.int .u32 q.pg.addr]:=by
 unfold addrs rpgs;rw[List.map_append,List.map_append,List.map_append];rfl
theorem pages{w:World}{rb:Nat}{lv:Value}{R:List Rp}(h:Rsp w rb lv R):Calls Tryz.prog 220 #[.pointer (some ⟨rb,0,none⟩)] w (PagesPost (rpgs R) w):=by
 have hln:=h.len;obtain⟨i0,hi0,hz0,hz1,hz2⟩:=info_parts infoU32;have Hi:=Lh hi0;have Hz0:=Lh hz0;have Hz1:=Lh hz1;have Hz2:=Lh hz2;obtain⟨n,hn⟩:∃n,R.length=n:=⟨_,rfl⟩;have Hn:=Lh hn;rw[hn] at hln;have H:=Lh h;obtain⟨a,cap,hlv,hrow,_⟩:=h.row;have Hrow:=Lh hrow;have hc0:=h.cellHead;rw[hlv,hn] at hc0;have Hlv:=Lh hlv;have Hc0:=Lh hc0;have hrb:rb<w.heap.size:=lt_of_block h.head;have HPost:Hid (∀(v:Value) (w':World),w'.ownsRow w.heap.size 22 1 v n ((addrs (rpgs R)).map encU)→Below w.heap.size w w'→PagesPost (rpgs R) w (.returned v) w'):=Lh fun v w' g1 g2=>⟨v,rfl,by rw[show(rpgs R).length=n by rw[←hn];exact List.length_map ..];exact g1,g2⟩
 generalize PagesPost (rpgs R) w=PQ at*;clear h hi0 hz0 hz1 hz2 hn hrow hc0 hlv;go_enter func220,ntmps220;go_wp2;go_loopw [3,4] (fun vl vi wr=>pgsRel w R vl vi wr) (fun _ vi _=>n - (intOf vi).toNat)
 case atStart=>exact⟨0,by go_num,Nat.zero_le _,Below.refl _ _,World.ownsRow_nil _ _ _ _⟩
 case round=>
  obtain⟨i,rfl,hi,hbw,hown⟩:=hrel;rw[Hn.out] at hi;have hsz:=hbw.size;have hc:wr.cell? ⟨rb,0,none⟩=some (.slice a n cap):=(hbw.cell hrb).trans Hc0.out;have HB:=Lh hbw;have HS:=Lh (H.out.below hbw fun k hk=>H.out.lt hk);have Ho:=Lh hown
  by_cases hin:i<n
  ·have hin2:i<R.length:=by rw[Hn.out];exact hin
   obtain⟨g,rfl,hcell⟩:=Hrow.out (by rw[Hn.out];omega);have hci0:w.cell? ⟨g,i,none⟩=some (R[i]).ptr:=hcell i _ (Zg hin2);have hg:g<w.heap.size:=H.out.lt (.inr (.inl (by rw[Hlv.out];rfl)));have hci:wr.cell? ⟨g,i,none⟩=some (R[i]).ptr:=(hbw.cell hg).trans hci0;have hpg:=HS.out.pages R[i] (List.getElem_mem hin2);obtain⟨c0,_,_⟩:=hpg.cells;have htk:=Lh (List.take_succ_eq_append_getElem hin2);unfold Rp.ptr at hci;have hsn:=Lh (addrs_snoc (R.take i) R[i]);clear hown hbw hpg hcell hci0;go_wp2_with (at_builtin;go_loud (refine wpList_append_own _ rfl _ _ 23 rfl w.heap.size 22 i0 (.int .u32 0) 1 4 Tryz.underlying23 Hi.out Hz0.out Hz1.out Hz2.out rfl (by decide) _ _ _ rfl (Ho.out.alloc _) ⟨wr.heap.size,0,none⟩ 1 1 [.int .u32 R[i].pg.addr] rfl rfl (cell_one_new _ _ _) (by simp[Value.oneCell']) (by unfold maxLen;omega) (by omega) (by simp;omega) ?_);intro v2 w2 ho2 hg2 _;have hb2:=own_below (HB.out.alloc hsz _) (by simp;omega) (Ho.out.alloc _) hg2);refine⟨⟨i+1,by go_num,by rw[Hn.out];omega,hb2, ?_⟩,by simp[intOf];omega⟩;rw[htk.out,hsn.out];exact ho2
  ·obtain rfl:i=n:=by omega
   have htk:R.take i=R:=List.take_of_length_le (by rw[Hn.out];exact Nat.le_refl _);rw[htk] at Ho;clear hown hbw htk;go_wp2
   first|exact HPost.out _ _ Ho.out HB.out|(go_ret;exact HPost.out _ _ Ho.out HB.out)
structure Words(w:World)(a:Option Addr)(xs:List Int):Prop where
 cell:∀i,(h:i<xs.length)→∃g o,a=some ⟨g,o,none⟩∧w.cell? ⟨g,o+i,none⟩=some (.int .u32 xs[i])
 len:xs.length≤9223372036854775807
theorem words_own{w:World}{base:Nat}{v:Value}{xs:List Int}(h:w.ownsRow base 22 1 v xs.length (xs.map encU)):∃a cap,v=.slice a xs.length cap∧Words w a xs:=by
 rcases h.2 with⟨rfl,h0⟩|⟨g,cap,cur,rfl,_,_,h1,h2,_⟩
 ·exact⟨none,0,by rw[h0],fun i hi=>by omega,by omega⟩
 ·refine⟨_,cap,rfl,fun i hi=>⟨g,0,rfl, ?_⟩,by unfold maxLen at h2;omega⟩;rw[Nat.zero_add,World.ownsRow.cellAt h i (by simpa using hi),List.getElem?_map,Zg hi];rfl
def swRel(xs ys:List Int)(vi:Value):Prop:=∃i:Nat,i≤xs.length∧vi=.int .i64 i∧∀j,j<i→xs[j]? =ys[j]?
theorem sameWords{w:World}{a b:Option Addr}{ca cb:Nat}{xs ys:List Int}(ha:Words w a xs)(hb:Words w b ys):
  Calls Tryz.prog 102 #[.slice a xs.length ca,.slice b ys.length cb] w fun e w'=>e=.returned (.bool (decide (xs=ys)))∧Below w.heap.size w w':=by
 have HA:=Lh ha;have HB:=Lh hb;have l1:=ha.len;have l2:=hb.len;have HN:Hid (xs≠ys→decide (xs=ys)=false):=Lh fun g=>decide_eq_false g
 have HY:Hid (xs=ys→decide (xs=ys)=true):=Lh fun g=>decide_eq_true g
 generalize decide (xs=ys)=res at*;clear ha hb
 by_cases hl:xs.length=ys.length
 ·have Hl:=Lh hl;generalize hn:xs.length=n at*;have Hn:=Lh hn;rw[←hl];clear hl hn;go_enter func102,ntmps102;go_wp2;go_loopw [5] (fun vi wr=>swRel xs ys vi∧Below w.heap.size w wr) (fun vi _=>n - (intOf vi).toNat)
  case atStart=>exact⟨⟨0,by omega,rfl,fun j hj=>absurd hj (by omega)⟩,Below.refl _ _⟩
  case round=>
   obtain⟨⟨i,hi,rfl,hsame⟩,hbel⟩:=hrel;rw[Hn.out] at hi;have HB2:=Lh hbel;have HSm:=Lh hsame;clear hsame
   by_cases hin:i<n
   ·have h1:i<xs.length:=by rw[Hn.out];exact hin
    have h2:i<ys.length:=by rw[←Hl.out];exact hin
    obtain⟨g,o,rfl,hc⟩:=HA.out.cell i h1;obtain⟨g2,o2,rfl,hc2⟩:=HB.out.cell i h2;have hgl:g<w.heap.size:=by unfold World.cell? at hc;cases hg:w.heap[g]? with|none=>rw[hg] at hc;cases hc|some _=>exact lt_of_block hg
    have hgl2:g2<w.heap.size:=by unfold World.cell? at hc2;cases hg:w.heap[g2]? with|none=>rw[hg] at hc2;cases hc2|some _=>exact lt_of_block hg
    have hc':=(hbel.cell (p:=⟨g,o+i,none⟩) hgl).trans hc;have hc2':=(hbel.cell (p:=⟨g2,o2+i,none⟩) hgl2).trans hc2;have Hx:=Lh (show xs[i]? =some xs[i] from Zg h1);have Hy:=Lh (show ys[i]? =some ys[i] from Zg h2);generalize xs[i]=x at*;generalize ys[i]=y at*;clear hc hc2 hbel
    by_cases hxy:x=y
    ·subst hxy;go_wp2;go_region
     all_goals
      go_wp2;refine⟨⟨⟨i+1,by rw[Hn.out];omega,by go_num,fun j hj=> ?_⟩,HB2.out.drew⟩,by simp[intOf];omega⟩
      by_cases e:j=i
      ·rw[e,Hx.out,Hy.out]
      ·exact HSm.out j (by omega)
    ·have hne:(x != y)=true:=by simpa using hxy
     have hf:=Lh (HN.out fun e=>hxy (by have:=Hx.out;rw[e,Hy.out] at this;simpa using this.symm));go_wp2;go_region
     all_goals
      go_wp2;go_ret;exact⟨Sp.ret_bool hf.out.symm,HB2.out.drew⟩
   ·obtain rfl:i=n:=by omega
    have hY:=Lh (HY.out (List.ext_getElem? fun j=>by
     by_cases hj:j<i
     ·exact HSm.out j hj
     ·rw[List.getElem?_eq_none (by rw[Hn.out];omega),List.getElem?_eq_none (by rw[←Hl.out];omega)]))
    go_wp2;go_ret;exact⟨Sp.ret_bool hY.out.symm,HB2.out⟩
 ·have hf:=Lh (HN.out fun e=>hl (by rw[e]));have hne:((xs.length:Int) != (ys.length:Int))=true:=by rw[bne_iff_ne];omega
  generalize xs.length=n at*;generalize ys.length=m at*;clear hl;go_enter func102,ntmps102;go_wp2;go_ret;exact⟨Sp.ret_bool hf.out.symm,Below.refl _ _⟩
end Go.Proofs.YtjjdjpdmgaipeaaGreat.Rs
