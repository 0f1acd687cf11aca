/- Pag, RspE, Sl21, WordNum, WordSpec, WordPut, Ins, SpcY in one text. -/
import Derived.RangeFuncBox
import Derived.RangeFuncLeaves
import Derived.RangeFuncBound
import Derived.Shelf.Abstract
import Derived.OwnWalkIn
import Derived.TacticsInMore
import Derived.RegionIn
import Derived.LoopNIn
import Derived.LoopIn
import Derived.Maps.AppendAt
import Derived.Sort.MapsRangeIn
import Derived.Test.YtehihecknhcggaaGreatFtSrt
import Derived.Test.YtehihecknhcggaaGreatFtBase
import Derived.Test.YtehihecknhcggaaGreatFtRspW
import Derived.Lib.SliceRun
import Derived.Shelf.RegionOpenPlain
import Derived.Deep.RegionLaw
import Derived.Laws.IdiomCopy
import Derived.Lib.AppendZeros
import Derived.Lib.Overlaps
import Derived.Test.YtehihecknhcggaaGreatProg
import Derived.Lib.Hide
import Derived.Laws.BytesArg
import Derived.WalkSpells
import Derived.WalkLawsBesides
import Derived.Maps.RangeWalk
import Derived.Deep.RegionHeld3
import Derived.Deep.MidRow
import Derived.Test.YtehihecknhcggaaGreatFtZa
set_option linter.unusedVariables false
set_option linter.unusedSimpArgs false
set_option maxRecDepth 100000
set_option maxHeartbeats 16000000
open Go.Proofs.Tryz
namespace Go.Proofs.YtehihecknhcggaaGreat.Pag
open Go.RowKit Go.Maps Go.Shelf
attribute [local go_sem] Oper.semAt_some
abbrev encU:Int→Value:=Value.int .u32
theorem encU_inj{x y:Int}(h:encU x=encU y):x=y:=by simpa [encU] using h
theorem keyOf_u32{P:Program}{k:TypeId}(hk:P.underlying k=some (.int .u32)){key:Value}{kl:Lit}(h:keyOf P k key=some kl):∃x:Int,key=encU x∧kl=.int .u32 x∧(Lit.int .u32 x).wf=true:=by
 cases key<;>simp[keyOf,hk,mapKey] at h
 rename_i q a
 obtain⟨⟨rfl,hw⟩,rfl⟩:=h;exact⟨a,rfl,rfl,hw⟩
def Come{H:Type}(D0:DataW H)(left:Lit→Bool)(ss:List Int):Prop:=ss.Nodup∧∀x,x∈ss↔(has D0 (.int .u32 x)=true∧left (.int .u32 x)=false)
section
variable {H:Type} {D0:DataW H} {left:Lit→Bool} {ss:List Int}
theorem Come.start(D0:DataW H):Come D0 (has D0) []:=⟨List.nodup_nil,fun x=>by cases has D0 (.int .u32 x)<;>simp⟩
theorem Come.step(h:Come D0 left ss){x:Int}{y:DataW H}(hlk:left (.int .u32 x)=true)(hat:∀zd,D0.atKey (.int .u32 x) zd=y):Come D0 (fun z=>left z&& !z.sameKey (.int .u32 x)) (ss++[x]):=by
 have hhas:has D0 (.int .u32 x)=true:=has_true_of_atKey hat
 have hnew:x∉ss:=by
  intro hx;have:=((h.2 x).1 hx).2;rw[hlk] at this;cases this
 refine⟨List.nodup_append.2 ⟨h.1,by simp, ?_⟩,fun y=> ?_⟩
 ·intro a ha b hb e;simp at hb;subst hb;exact hnew (e▸ha)
 ·by_cases hy:y=x
  ·subst hy;simp[hhas,Lit.sameKey]
  ·simp[h.2 y,hy,Lit.sameKey]
end
theorem keys1{H:Type}(n:Nat)(hn:1≤n)(l Bm b nn:Nat)(D0:DataW H){R:Value→Option (DataW H×List MemPlace)}(J Jx:List Int→World→Prop)
  (hY:∀pre x W,J pre W→pre.length<Maps.size D0→YieldAt Fence.wide (n - 1) Tryz.prog l #[encU x] W fun e W'=>(e=.returned (.bool true)∧J (pre++[x]) W'∧KeepsWalks W W')∨(e=.returned (.bool false)∧Jx (pre++[x]) W'))
  (W:World) (hJ:AbidesFrom W.heap.size J) (hm:W.cell? ⟨Bm,0,none⟩=some (.map (some b))) (hown:W.ownsMap Tryz.prog 41 R b nn D0) (h0:J [] W):
  CallsIn Fence.wide n Tryz.prog 308 #[.func (.yield l) #[] #[],.pointer (some ⟨Bm,0,none⟩)] W fun e W'=>(∃v,e=.returned v)∧
   ((∃ss:List Int,(ss.Nodup∧∀x,x∈ss↔has D0 (.int .u32 x)=true)∧J ss W')∨(∃pre:List Int,pre.Nodup∧Jx pre W')):=by
 have hK:=int_keyed (P:=Tryz.prog) Tryz.underlying41;refine callsIn_of_wp func308 rfl trivial ?_ rfl;simp only[ntmps308,List.size_toArray,List.length_cons,List.length_nil,Nat.reduceAdd,Nat.reduceSub,Array.replicate_succ,Array.replicate_zero,List.push_toArray,List.append_toArray,List.nil_append,List.cons_append]
 gi_wp2_with (first
  |(gi_at_range;refine wpListIn_range_own _ rfl _ 336 rfl 41 340 hK Tryz.underlying336 _ b nn _ rfl hown ?_;intro w0 hrg0 hg0 hs0)
  |gi_in)
 go_frame
 gi_loopw [3] (fun _ wr=>∃(left:Lit→Bool) (cnt:Nat) (ss:List Int),wr.ranges Tryz.prog 41 R b W.heap.size nn D0 left cnt∧ss.length+cnt≤Maps.size D0∧Come D0 left ss∧J ss wr)
  (fun _ wr=>wr.rangeLeft b W.heap.size)
 case atStart=>exact⟨_,_,[],hrg0,by simp,Come.start D0,hJ [] W w0 none h0 hg0 (fun r e=>by cases e)⟩
 case round=>
  obtain⟨left,cnt,ss,hrg,hcs,hC,hJs⟩:=hrel
  gi_wp2_with (first
   |(gi_at_next;refine wpListIn_next_ranges _ rfl _ rfl 41 hK R encU id (fun key kl hk=>by obtain⟨x,hx,_⟩:=keyOf_u32 Tryz.underlying41 hk;exact⟨x,hx⟩) (fun v _ _=>⟨v,rfl⟩) b W.heap.size nn _ _ _ rfl hrg ?_ ?_)
   |gi_in)
  ·intro hc0 hl0
   gi_wp2
   go_end0;exact⟨⟨_,rfl⟩,.inl ⟨ss,⟨hC.1,fun x=>by rw[hC.2 x,hl0];simp⟩,hJs⟩⟩
  ·intro x c kl yd yp w2 cnt2 hkey hlk hv hat hrg2 hlt hg2 hs2 hen;obtain⟨x',ex,rfl,_⟩:=keyOf_u32 Tryz.underlying41 hkey;obtain rfl:x=x':=encU_inj ex;have hJ2:J ss w2:=hJ ss wr w2 (some W.heap.size) hJs hg2 (fun r e=>by cases e;exact⟨Nat.le_refl _,hrg.iter_walk⟩);obtain⟨fn,tmps,assign,body,hy,hR⟩:=hY ss x w2 hJ2 (by omega);clear hs2
   gi_wp2
   refine hR.mono ?_;have hC2:=hC.step hlk hat
   rintro e W3 (⟨rfl,hJ3,hk3⟩|⟨rfl,hJx3⟩)
   ·gi_wp2
    have hrg3:=hrg2.of_walks hk3;go_roundw
    case rel=>exact⟨_,cnt2,ss++[x],hrg3,by simp;omega,hC2,hJ3⟩
    case measure=>rw[hrg3.left_eq,hrg.left_eq];exact hlt
   ·gi_wp2
    refine bodyPost_ret (results_none rfl _ _ _) rfl ?_;exact⟨⟨_,rfl⟩,.inr ⟨ss++[x],hC2.1,hJx3⟩⟩
theorem keys_stops{H:Type}(n:Nat)(hn:1≤n)(Bm b nn:Nat)(D0:DataW H){R:Value→Option (DataW H×List MemPlace)}(w:World)(hBm:Bm<w.heap.size)(hm:w.cell? ⟨Bm,0,none⟩=some (.map (some b)))(hown:w.ownsMap Tryz.prog 41 R b nn D0):
  SeqStopsK Fence.wide n Tryz.prog 308 #[.pointer (some ⟨Bm,0,none⟩)] (fun x:Int=> #[encU x]) KeepsWalks (fun ss=>ss.Nodup∧∀x,x∈ss↔has D0 (.int .u32 x)=true) (fun pre=>pre.Nodup) (Maps.size D0) w:=fun l J Jx W hW hJ _ hY h0=>by
 have hown':W.ownsMap Tryz.prog 41 R b nn D0:=by
  have hbl:=hown.lt;obtain⟨es,clock,hb,rest⟩:=hown;exact⟨es,clock,(hW.block b hbl).trans hb,rest⟩
 exact keys1 n hn l Bm b nn D0 J Jx hY W hJ ((hW.cell (p:=⟨Bm,0,none⟩) hBm).trans hm) hown' h0
theorem keys(n:Nat)(mb:Option Nat)(w:World):CallsIn Fence.wide n Tryz.prog 245 #[.map mb] w fun e w'=>e=.returned (.func (.func 308) #[] #[.pointer (some ⟨w.heap.size,0,none⟩)])∧w'=w.alloc (.cells #[.map mb] 336):=by
 refine callsIn_of_wp func245 rfl trivial ?_ rfl;simp only[ntmps245,List.size_toArray,List.length_cons,List.length_nil,Nat.reduceAdd,Nat.reduceSub,Array.replicate_succ,Array.replicate_zero,List.push_toArray,List.append_toArray,List.nil_append,List.cons_append]
 gi_wp2
 go_ret;exact⟨rfl,rfl⟩
theorem infoU32:(Tryz.prog.info? 41).map (fun i=>(i.zero,i.size,i.bytes))=some (some (.int .u32 0),1,4):=by kernel_rfl
theorem appendSeq(n:Nat)(hn:2≤n)(g:Nat)(lb:Array Value)(eg:∀args w,(callFunc g args).run Tryz.prog w=.ok (.enter g args) w)(S Sp:List Int→Prop)(N:Nat)(hN:N≤maxLen)(hNb:N*4≤140737488355328)(w:World)
  (hseq:SeqStopsK Fence.wide (n - 1) Tryz.prog g lb (fun x:Int=> #[encU x]) KeepsWalks S Sp N w) (hSN:∀ss,S ss→ss.length≤N):
  CallsIn Fence.wide n Tryz.prog 301 #[.slice none 0 0,.func (.func g) #[] lb] w fun e w'=>∃(v:Value) (ss:List Int),e=.returned v∧S ss∧w'.ownsRow w.heap.size 41 1 v ss.length (ss.map encU)∧Below w.heap.size w w':=by
 have h1:1≤n:=by omega
 obtain⟨i0,hi,hz0,hz1,hz2⟩:=info_parts infoU32;refine callsIn_of_wp_marks func301 rfl trivial ?_ rfl;simp only[ntmps301,List.size_toArray,List.length_cons,List.length_nil,Nat.reduceAdd,Nat.reduceSub,Array.replicate_succ,Array.replicate_zero,List.push_toArray,List.append_toArray,List.nil_append,List.cons_append]
 gi_wp2
 have bO:=Boxed.new w 42 (.slice none 0 0);have hB0:Below w.heap.size w (w.alloc (.cells #[.slice none 0 0] 42)):=(Below.refl _ w).alloc (Nat.le_refl _) _;refine wpIn_rangeFunc_ownG rfl h1 (gf:=g) (lb:=lb) rfl trivial eg hseq walksK_t walksK_b hB0 (fun _=>rfl)
  (fun pre W=>(∃v,Boxed W w.heap.size 42 v∧W.ownsRow w.heap.size 41 1 v pre.length (pre.map encU)∧(v=.slice none 0 0↔pre=[]))∧Below w.heap.size w W)
  (fun _ _ _=>False)
  (OwnFrom.and (Own.from (holdsRow_own w.heap.size w.heap.size 42 41 1 (fun pre=>pre.length) (fun pre=>pre.map encU) (fun pre v=>v=.slice none 0 0↔pre=[])) _) (ownFrom_below (Nat.le_refl _) (by simp)))
  (fun _ _ _ _ _ hs _ _=>hs)
  ⟨⟨_,bO,World.ownsRow_nil _ _ _ _,by simp⟩,hB0⟩
  (fun x=> {tmps:= #[.slice none 0 0,.func (.func g) #[] lb,.pointer (some ⟨w.heap.size,0,none⟩),undef,.slice none 0 0,encU x,.func (.func g) #[] lb,encU x,undef,undef,undef,undef,undef],defers:=[]}) ?assign ?body ?done ?stop
 case assign=>
  intro l x W K hK
  gi_wp2
  exact hK
 case body=>
  rintro l pre x W ⟨⟨v,hv,hrow,hnil⟩,hB⟩ hlt;have hc:=hv.cell
  gi_wp2_with (gi_at_builtin;refine wpListIn_append_own _ rfl _ _ 42 rfl w.heap.size 41 i0 (.int .u32 0) 1 4 Tryz.underlying42 hi hz0 hz1 hz2 rfl (by decide) _ _ _ rfl (hrow.alloc _) ⟨W.heap.size,0,none⟩ 1 1 [encU x] rfl rfl (cell_one_new _ _ _) (by simp[Value.oneCell',encU]) (by omega) (by omega) (by have:=hB.size;simp;omega) ?_;intro v' w1 hown' hgrow _;obtain⟨g',cap',rfl⟩:=ownsRow_succ hown';obtain⟨hv1,hv2,hr2,hk2,hb2⟩:=hv.appended (by decide) hrow hB.size (Nat.le_refl _) hown' hgrow;have hc1:=hv1.cell;have hf1:=hv1.frozen)
  exact⟨hk2.from _,hk2.walks,⟨_,hv2,by simpa using hr2,by simp⟩,hB.trans hb2⟩
 case done=>
  rintro D ys W hD hys ⟨⟨v,hv,hrow,hnil⟩,hB⟩ hK;have hc:=hv.cell
  gi_wp2
  refine⟨by simp,.inl ⟨_,_,rfl,run_takeDeferred hK, ?_⟩⟩;exact⟨_,results_tmp rfl _ _ _,v,ys,rfl,hys,ownsRow_putObj hrow _ hK rfl,hB.trans (belowK_b (w:=w) (Nat.le_refl _) W D _ _ (by simp at hD;omega) hK rfl rfl)⟩
 case stop=>
  rintro D c pre W _ _ h _;exact h.elim
theorem collect(n:Nat)(hn:3≤n)(g:Nat)(lb:Array Value)(eg:∀args w,(callFunc g args).run Tryz.prog w=.ok (.enter g args) w)(S Sp:List Int→Prop)(N:Nat)(hN:N≤maxLen)(hNb:N*4≤140737488355328)(w:World)
  (hseq:SeqStopsK Fence.wide (n - 1 - 1) Tryz.prog g lb (fun x:Int=> #[encU x]) KeepsWalks S Sp N w) (hSN:∀ss,S ss→ss.length≤N):
  CallsIn Fence.wide n Tryz.prog 237 #[.func (.func g) #[] lb] w fun e w'=>∃(v:Value) (ss:List Int),e=.returned v∧S ss∧w'.ownsRow w.heap.size 41 1 v ss.length (ss.map encU)∧Below w.heap.size w w':=by
 have h1:1≤n:=by omega
 refine callsIn_of_wp func237 rfl trivial ?_ rfl;simp only[ntmps237,List.size_toArray,List.length_cons,List.length_nil,Nat.reduceAdd,Nat.reduceSub,Array.replicate_succ,Array.replicate_zero,List.push_toArray,List.append_toArray,List.nil_append,List.cons_append];have hc:=appendSeq (n - 1) (by omega) g lb eg S Sp N hN hNb w hseq hSN;have hf:Fence.wide.fn 301:=trivial
 gi_wp2_with (gi_at_call 301;refine hc.mono ?_;rintro e w' ⟨v,ss,rfl,hS,hrow,hb⟩)
 go_ret;exact⟨v,ss,rfl,hS,hrow,hb⟩
def SortedPost(w:World)(S:List Int→Prop)(e:Ending)(w':World):Prop:=
 ∃(v:Value) (ss:List Int),e=.returned v∧(∃ys,S ys∧ss.Perm ys)∧ss.Pairwise (fun x y=>x≤y)∧w'.ownsRow w.heap.size 41 1 v ss.length (ss.map encU)∧Below w.heap.size w w'
theorem sw_of_row{w':World}{gb cap:Nat}{cur:Array Value}{ss:List Int}(hg:w'.heap[gb]? =some (.cells cur 41 (0,0)))(hs:cur.size=cap*1)(ht:cur.toList.take (ss.length*1)=ss.map encU):Srt.SW w' w' gb 0 41 cur.size ss.toArray:=by
 refine⟨Mod.refl _ _,cur,hg,rfl,fun j hj=> ?_⟩;simp at hj;have h2:(cur.toList.take (ss.length*1))[j]? =(ss.map encU)[j]? :=by rw[ht]
 rw[List.getElem?_take_of_lt (by omega),List.getElem?_map,Zg hj] at h2;rw[Nat.zero_add,getElem!_pos ss.toArray j (by simpa using hj)]
 simpa using h2
theorem sortedIn_pairwise{d:Array Int}{n:Nat}(hn:d.size=n)(h:Sort.SortedIn Sort.ltInt 0 n d):d.toList.Pairwise (fun x y=>x≤y):=by
 rw[List.pairwise_iff_getElem];intro i j hi hj hij;have:=h i j (Nat.zero_le _) hij (by simpa [hn] using hj);rw[getElem!_pos d j (by simpa using hj),getElem!_pos d i (by simpa using hi)] at this;simp[Sort.ltInt] at this
 simpa using this
theorem perm_of_permIn{d d':Array Int}(h:Sort.PermIn 0 d.size d d'):d'.toList.Perm d.toList:=by
 have:=h.2.2;rw[show d'.extract 0 d.size=d' by rw[←h.1];simp,show d.extract 0 d.size=d by simp] at this;exact this
theorem ins_none(w:World):Calls Tryz.prog 351 #[.slice none 0 0,.int .i64 0,.int .i64 0] w fun e w'=>e=.returned (.tuple #[])∧w=w':=by
 go_enter func351,ntmps351;go_wp2;refine wp_loop_rounds 1 ?_;rw[rounds_succ];go_wp2;go_end0;exact⟨rfl,rfl⟩
theorem pdq_none(k:Int)(w:World):Calls Tryz.prog 302 #[.slice none 0 0,.int .i64 0,.int .i64 0,.int .i64 k] w fun e w'=>e=.returned (.tuple #[])∧w=w':=by
 go_enter func302,ntmps302;go_wp2;refine wp_loop_rounds 1 ?_;rw[rounds_succ];go_wp2_with (go_at_call 351;(with_reducible refine(ins_none _).mono ?_);rintro x w1 ⟨rfl,rfl⟩)
 (try simp only[Exit.inBlock,Exit.then]);refine bodyPost_ret (results_none rfl _ _ _) rfl ?_
 exact⟨rfl,rfl⟩
theorem sort_none(w:World):Calls Tryz.prog 238 #[.slice none 0 0] w fun e w'=>e=.returned (.tuple #[])∧w=w':=by
 have hl:∀w,Calls Tryz.prog 303 #[.int .u64 0] w fun e w'=>e=.returned (.int .i64 0)∧w=w':=fun w=>Srt.bitsLen_any 0 (by omega) w
 go_enter func238,ntmps238;go_wp2_with (first|(go_at_call 303;(with_reducible refine(hl _).mono ?_);rintro x w' ⟨rfl,rfl⟩)|(go_at_call 302;(with_reducible refine(pdq_none _ _).mono ?_);rintro x w' ⟨rfl,rfl⟩));go_end0;exact⟨rfl,rfl⟩
theorem sorted(n:Nat)(hn:4≤n)(g:Nat)(lb:Array Value)(eg:∀args w,(callFunc g args).run Tryz.prog w=.ok (.enter g args) w)(S Sp:List Int→Prop)(N:Nat)(hN:N<65536)(w:World)
  (hseq:SeqStopsK Fence.wide (n - 1 - 1 - 1) Tryz.prog g lb (fun x:Int=> #[encU x]) KeepsWalks S Sp N w) (hSN:∀ss,S ss→ss.length≤N):
  CallsIn Fence.wide n Tryz.prog 154 #[.func (.func g) #[] lb] w (SortedPost w S):=by
 have h1:1≤n:=by omega
 refine callsIn_of_wp func154 rfl trivial ?_ rfl;simp only[ntmps154,List.size_toArray,List.length_cons,List.length_nil,Nat.reduceAdd,Nat.reduceSub,Array.replicate_succ,Array.replicate_zero,List.push_toArray,List.append_toArray,List.nil_append,List.cons_append];have hc:=collect (n - 1) (by omega) g lb eg S Sp N (by unfold maxLen;omega) (by omega) w hseq hSN;have hf:Fence.wide.fn 237:=trivial;have hf2:Fence.wide.fn 238:=trivial
 gi_wp2_with (gi_at_call 237;refine hc.mono ?_;rintro e W ⟨v,ss,rfl,hS,hrow,hb⟩)
 have hlen:=hSN ss hS;rcases hrow.2 with⟨rfl,hz⟩|⟨gb,cap,cur,rfl,hbase,hgb,r1,r2,r3,r4⟩
 ·obtain rfl:ss=[]:=List.eq_nil_of_length_eq_zero hz;have hso:=callsIn_wide (n:=n - 1)|>.2 (sort_none W)
  gi_wp2_with (gi_at_call 238;refine hso.mono ?_;rintro e w' ⟨rfl,rfl⟩)
  go_ret;exact⟨_,[],rfl,⟨[],hS,.refl _⟩,.nil,hrow,hb⟩
 ·have hsw:=sw_of_row hgb r3 r4;have hso:=callsIn_wide (n:=n - 1)|>.2 (Srt.sort hsw cap ss.length (by simp) (by omega))
  gi_wp2_with (gi_at_call 238;refine hso.mono ?_;rintro e w' ⟨d',rfl,p1,p2,p3⟩)
  go_ret;have hsz:ss.toArray.size=ss.length:=by simp
  have hd:d'.size=ss.length:=p1.1;have hpp:=perm_of_permIn (by rw[hsz];exact p1);refine⟨_,d'.toList,rfl,⟨ss,hS,hpp⟩,sortedIn_pairwise hd p2, ?_, ?_⟩
  ·obtain⟨cur',hb',hs',hc'⟩:=p3.row;have hdl:d'.toList.length=ss.length:=by rw[Array.length_toList];exact hd
   refine⟨by rw[List.length_map];omega,.inr ⟨gb,cap,cur',by rw[hdl];rfl,hbase,hb',by omega,r2,by rw[hs',r3], ?_⟩⟩
   apply List.ext_getElem?
   intro j
   by_cases hj:j<ss.length
   ·rw[List.getElem?_take_of_lt (by omega),List.getElem?_map,Array.getElem?_toList,Array.getElem?_toList];have:=hc' j (by omega);rw[Nat.zero_add] at this;rw[this,getElem!_pos d' j (by omega),Array.getElem?_eq_getElem (by omega)];rfl
   ·rw[List.getElem?_eq_none (by rw[List.length_take];omega),List.getElem?_eq_none (by rw[List.length_map];omega)]
  ·exact Mod.below hb p3.mod hb.size fun k _ hk=>by subst hk;exact hbase
theorem rising_eq{l l':List Int}(h:l.Perm l')(h1:l.Pairwise (fun x y=>x≤y))(h2:l'.Pairwise (fun x y=>x≤y)):l=l':=
 List.Perm.eq_of_pairwise (le:=fun a b=>a≤b) (fun a b _ _ g1 g2=>Int.le_antisymm g1 g2) h1 h2 h
theorem row_base{W:World}{base base':Nat}{e:TypeId}{size:Nat}{v:Value}{k:Nat}{xs:List Value}(h:W.ownsRow base e size v k xs)(hb:base'≤base):W.ownsRow base' e size v k xs:=by
 obtain⟨hl,h⟩:=h;refine⟨hl,h.imp id ?_⟩;rintro⟨g,cap,cur,rfl,g1,rest⟩;exact⟨g,cap,cur,rfl,Nat.le_trans hb g1,rest⟩
def addrs(A:List Pg):List Int:=A.map (·.addr)
theorem mem_addrs{A:List Pg}{x:Int}:x∈addrs A↔(atAddr A x).isSome=true:=by
 constructor
 ·intro h;cases hx:atAddr A x with
  |some p=>rfl
  |none=>
   obtain⟨p,hp,e⟩:=List.mem_map.1 h;exact absurd e (atAddr_none hx p hp)
 ·intro h;obtain⟨p,hp⟩:=Option.isSome_iff_exists.1 h;have:=atAddr_mem hp;exact List.mem_map.2 ⟨p,this.1,this.2⟩
theorem addrs_up{A:List Pg}(h:A.Pairwise fun p q=>p.addr<q.addr):(addrs A).Pairwise (fun x y=>x≤y)∧(addrs A).Nodup:=by
 constructor
 ·exact List.pairwise_map.2 (h.imp fun g=>by omega)
 ·exact List.pairwise_map.2 (h.imp fun g=>by omega)
def PagesPost(A:List Pg)(w:World)(e:Ending)(w':World):Prop:=∃v:Value,e=.returned v∧w'.ownsRow w.heap.size 41 1 v A.length ((addrs A).map encU)∧Below w.heap.size w w'
theorem pages{w:World}{sb mb:Nat}{A:List Pg}(h:Spc w sb mb A):Calls Tryz.prog 167 #[.pointer (some ⟨sb,0,none⟩)] w (PagesPost A w):=by
 refine(callsIn_wide (n:=7)).1 ?_;have hc:=h.cellHead;have hmbl:=h.lt (.inr (.inl rfl));obtain⟨D,n,ho,hv,hs⟩:=h.map;have hln:=h.len;have hh:∀x,has D (.int .u32 x)=(atAddr A x).isSome:=by
  intro x;cases hx:atAddr A x with
  |some p=>exact has_true_of_atKey (y:=.lit (.int .i64 p.blk)) fun zd=>by rw[hv,hx]
  |none=>exact has_false_of_atKey fun z=>by rw[hv,hx]
 have hbel:Below w.heap.size w (w.alloc (.cells #[.map (some mb)] 336)):=(Below.refl _ w).alloc (Nat.le_refl _) _;have hst:=keys_stops (R:=ptrElem) 3 (by omega) w.heap.size mb n D (w.alloc (.cells #[.map (some mb)] 336)) (by simp) (by simp) (by
  obtain⟨es,clock,hb,rest⟩:=ho;exact⟨es,clock,(hbel.block mb hmbl).trans hb,rest⟩)
 have hup:=addrs_up h.up;have hperm:∀ss:List Int,(ss.Nodup∧∀x,x∈ss↔has D (.int .u32 x)=true)→ss.Perm (addrs A):=fun ss g=>(List.perm_ext_iff_of_nodup g.1 hup.2).2 fun x=>by rw[g.2,hh,mem_addrs]
 have cS:=sorted 6 (by omega) 308 #[.pointer (some ⟨w.heap.size,0,none⟩)] (enters_of func308 (by kernel_rfl) rfl) _ _ (Maps.size D) (by omega) _ hst (fun ss g=>by
  have:=(hperm ss g).length_eq;unfold addrs at this;rw[List.length_map] at this;omega)
 have cK:=fun mb W=>keys 6 mb W
 have hfK:Fence.wide.fn 245:=trivial;have hfS:Fence.wide.fn 154:=trivial;clear h hs hln hv ho hh hst;refine callsIn_of_wp func167 rfl trivial ?_ rfl;simp only[ntmps167,List.size_toArray,List.length_cons,List.length_nil,Nat.reduceAdd,Nat.reduceSub,Array.replicate_succ,Array.replicate_zero,List.push_toArray,List.append_toArray,List.nil_append,List.cons_append]
 gi_wp2_with (first
  |(gi_at_call 245;refine(cK _ _).mono ?_;rintro e w' ⟨rfl,rfl⟩)
  |(gi_at_call 154;refine cS.mono ?_;rintro e w' ⟨v,ss,rfl,⟨ys,hys,hp⟩,hpw,hrow,hb⟩))
 go_ret;have e:=rising_eq (hp.trans (hperm ys hys)) hpw hup.1;subst e;have hl:(addrs A).length=A.length:=by unfold addrs;rw[List.length_map]
 rw[hl] at hrow;exact⟨_,rfl,row_base hrow (by simp),hbel.trans (hb.mono (by simp))⟩
end Go.Proofs.YtehihecknhcggaaGreat.Pag
namespace Go.Proofs.YtehihecknhcggaaGreat
open Go.RowKit
theorem rsp_nil{w:World}{rb:Nat}(h:w.heap[rb]? =some (.cells #[.slice none 0 0] 190 (0,0))):Rsp w rb (.slice none 0 0) []:=
 ⟨h,World.ownsRow_nil _ _ _ _,fun q hq=>by simp at hq,.nil,.nil⟩
end Go.Proofs.YtehihecknhcggaaGreat
namespace Go.Proofs.YtehihecknhcggaaGreat.Rs
open Go.RowKit Pag
def pgsRel(w:World)(R:List Rp)(vl vi:Value)(wr:World):Prop:=
 ∃i:Nat,vi=.int .i64 i∧i≤R.length∧Below w.heap.size w wr∧wr.ownsRow w.heap.size 41 1 vl i ((addrs (rpgs (R.take i))).map encU)
theorem addrs_snoc(l:List Rp)(q:Rp):(addrs (rpgs (l++[q]))).map encU=(addrs (rpgs l)).map encU++[.int .u32 q.pg.addr]:=by
 unfold addrs rpgs;rw[List.map_append,List.map_append,List.map_append];rfl
theorem pages{w:World}{rb:Nat}{lv:Value}{R:List Rp}(h:Rsp w rb lv R):Calls Tryz.prog 209 #[.pointer (some ⟨rb,0,none⟩)] w (PagesPost (rpgs R) w):=by
 have hln:=h.len;obtain⟨i0,hi0,hz0,hz1,hz2⟩:=info_parts infoU32;have Hi:=Lh hi0;have Hz0:=Lh hz0;have Hz1:=Lh hz1;have Hz2:=Lh hz2;obtain⟨n,hn⟩:∃n,R.length=n:=⟨_,rfl⟩;have Hn:=Lh hn;rw[hn] at hln;have H:=Lh h;obtain⟨a,cap,hlv,hrow,_⟩:=h.row;have Hrow:=Lh hrow;have hc0:=h.cellHead;rw[hlv,hn] at hc0;have Hlv:=Lh hlv;have Hc0:=Lh hc0;have hrb:rb<w.heap.size:=lQ h.head;have HPost:Hid (∀(v:Value) (w':World),w'.ownsRow w.heap.size 41 1 v n ((addrs (rpgs R)).map encU)→Below w.heap.size w w'→PagesPost (rpgs R) w (.returned v) w'):=Lh fun v w' g1 g2=>⟨v,rfl,by rw[show(rpgs R).length=n by rw[←hn];exact List.length_map ..];exact g1,g2⟩
 generalize PagesPost (rpgs R) w=PQ at*;clear h hi0 hz0 hz1 hz2 hn hrow hc0 hlv;go_enter func209,ntmps209;go_wp2;go_loopw [3,4] (fun vl vi wr=>pgsRel w R vl vi wr) (fun _ vi _=>n - (intOf vi).toNat)
 case atStart=>exact⟨0,by go_num,Nat.zero_le _,Below.refl _ _,World.ownsRow_nil _ _ _ _⟩
 case round=>
  obtain⟨i,rfl,hi,hbw,hown⟩:=hrel;rw[Hn.out] at hi;have hsz:=hbw.size;have hc:wr.cell? ⟨rb,0,none⟩=some (.slice a n cap):=(hbw.cell hrb).trans Hc0.out;have HB:=Lh hbw;have HS:=Lh (H.out.below hbw fun k hk=>H.out.lt hk);have Ho:=Lh hown
  by_cases hin:i<n
  ·have hin2:i<R.length:=by rw[Hn.out];exact hin
   obtain⟨g,rfl,hcell⟩:=Hrow.out (by rw[Hn.out];omega);have hci0:w.cell? ⟨g,i,none⟩=some (R[i]).ptr:=hcell i _ (Zg hin2);have hg:g<w.heap.size:=H.out.lt (.inr (.inl (by rw[Hlv.out];rfl)));have hci:wr.cell? ⟨g,i,none⟩=some (R[i]).ptr:=(hbw.cell hg).trans hci0;have hpg:=HS.out.pages R[i] (List.getElem_mem hin2);obtain⟨c0,_,_⟩:=hpg.cells;have htk:=Lh (List.take_succ_eq_append_getElem hin2);unfold Rp.ptr at hci;have hsn:=Lh (addrs_snoc (R.take i) R[i]);clear hown hbw hpg hcell hci0;go_wp2_with (at_builtin;go_loud (refine wpList_append_own _ rfl _ _ 42 rfl w.heap.size 41 i0 (.int .u32 0) 1 4 Tryz.underlying42 Hi.out Hz0.out Hz1.out Hz2.out rfl (by decide) _ _ _ rfl (Ho.out.alloc _) ⟨wr.heap.size,0,none⟩ 1 1 [.int .u32 R[i].pg.addr] rfl rfl (cell_one_new _ _ _) (by simp[Value.oneCell']) (by unfold maxLen;omega) (by omega) (by simp;omega) ?_);intro v2 w2 ho2 hg2 _;have hb2:=own_below (HB.out.alloc hsz _) (by simp;omega) (Ho.out.alloc _) hg2);refine⟨⟨i+1,by go_num,by rw[Hn.out];omega,hb2, ?_⟩,by simp[intOf];omega⟩;rw[htk.out,hsn.out];exact ho2
  ·obtain rfl:i=n:=by omega
   have htk:R.take i=R:=List.take_of_length_le (by rw[Hn.out];exact Nat.le_refl _);rw[htk] at Ho;clear hown hbw htk;go_wp2
   first|exact HPost.out _ _ Ho.out HB.out|(go_ret;exact HPost.out _ _ Ho.out HB.out)
structure Words(w:World)(a:Option Addr)(xs:List Int):Prop where
 cell:∀i,(h:i<xs.length)→∃g o,a=some ⟨g,o,none⟩∧w.cell? ⟨g,o+i,none⟩=some (.int .u32 xs[i])
 len:xs.length≤9223372036854775807
theorem words_own{w:World}{base:Nat}{v:Value}{xs:List Int}(h:w.ownsRow base 41 1 v xs.length (xs.map encU)):∃a cap,v=.slice a xs.length cap∧Words w a xs:=by
 rcases h.2 with⟨rfl,h0⟩|⟨g,cap,cur,rfl,_,_,h1,h2,_⟩
 ·exact⟨none,0,by rw[h0],fun i hi=>by omega,by omega⟩
 ·refine⟨_,cap,rfl,fun i hi=>⟨g,0,rfl, ?_⟩,by unfold maxLen at h2;omega⟩;rw[Nat.zero_add,World.ownsRow.cellAt h i (by simpa using hi),List.getElem?_map,Zg hi];rfl
def swRel(xs ys:List Int)(vi:Value):Prop:=∃i:Nat,i≤xs.length∧vi=.int .i64 i∧∀j,j<i→xs[j]? =ys[j]?
theorem sameWords{w:World}{a b:Option Addr}{ca cb:Nat}{xs ys:List Int}(ha:Words w a xs)(hb:Words w b ys):
  Calls Tryz.prog 104 #[.slice a xs.length ca,.slice b ys.length cb] w fun e w'=>e=.returned (.bool (decide (xs=ys)))∧Below w.heap.size w w':=by
 have HA:=Lh ha;have HB:=Lh hb;have l1:=ha.len;have l2:=hb.len;have HN:Hid (xs≠ys→decide (xs=ys)=false):=Lh fun g=>decide_eq_false g
 have HY:Hid (xs=ys→decide (xs=ys)=true):=Lh fun g=>decide_eq_true g
 generalize decide (xs=ys)=res at*;clear ha hb
 by_cases hl:xs.length=ys.length
 ·have Hl:=Lh hl;generalize hn:xs.length=n at*;have Hn:=Lh hn;rw[←hl];clear hl hn;go_enter func104,ntmps104;go_wp2;go_loopw [5] (fun vi wr=>swRel xs ys vi∧Below w.heap.size w wr) (fun vi _=>n - (intOf vi).toNat)
  case atStart=>exact⟨⟨0,by omega,rfl,fun j hj=>absurd hj (by omega)⟩,Below.refl _ _⟩
  case round=>
   obtain⟨⟨i,hi,rfl,hsame⟩,hbel⟩:=hrel;rw[Hn.out] at hi;have HB2:=Lh hbel;have HSm:=Lh hsame;clear hsame
   by_cases hin:i<n
   ·have h1:i<xs.length:=by rw[Hn.out];exact hin
    have h2:i<ys.length:=by rw[←Hl.out];exact hin
    obtain⟨g,o,rfl,hc⟩:=HA.out.cell i h1;obtain⟨g2,o2,rfl,hc2⟩:=HB.out.cell i h2;have hgl:g<w.heap.size:=by unfold World.cell? at hc;cases hg:w.heap[g]? with|none=>rw[hg] at hc;cases hc|some _=>exact lQ hg
    have hgl2:g2<w.heap.size:=by unfold World.cell? at hc2;cases hg:w.heap[g2]? with|none=>rw[hg] at hc2;cases hc2|some _=>exact lQ hg
    have hc':=(hbel.cell (p:=⟨g,o+i,none⟩) hgl).trans hc;have hc2':=(hbel.cell (p:=⟨g2,o2+i,none⟩) hgl2).trans hc2;have Hx:=Lh (show xs[i]? =some xs[i] from Zg h1);have Hy:=Lh (show ys[i]? =some ys[i] from Zg h2);generalize xs[i]=x at*;generalize ys[i]=y at*;clear hc hc2 hbel
    by_cases hxy:x=y
    ·subst hxy;go_wp2;go_region
     all_goals
      go_wp2;refine⟨⟨⟨i+1,by rw[Hn.out];omega,by go_num,fun j hj=> ?_⟩,HB2.out.drew⟩,by simp[intOf];omega⟩
      by_cases e:j=i
      ·rw[e,Hx.out,Hy.out]
      ·exact HSm.out j (by omega)
    ·have hne:(x != y)=true:=by simpa using hxy
     have hf:=Lh (HN.out fun e=>hxy (by have:=Hx.out;rw[e,Hy.out] at this;simpa using this.symm));go_wp2;go_region
     all_goals
      go_wp2;go_ret;exact⟨Sp.ret_bool hf.out.symm,HB2.out.drew⟩
   ·obtain rfl:i=n:=by omega
    have hY:=Lh (HY.out (List.ext_getElem? fun j=>by
     by_cases hj:j<i
     ·exact HSm.out j hj
     ·rw[List.getElem?_eq_none (by rw[Hn.out];omega),List.getElem?_eq_none (by rw[←Hl.out];omega)]))
    go_wp2;go_ret;exact⟨Sp.ret_bool hY.out.symm,HB2.out⟩
 ·have hf:=Lh (HN.out fun e=>hl (by rw[e]));have hne:((xs.length:Int) != (ys.length:Int))=true:=by rw[bne_iff_ne];omega
  generalize xs.length=n at*;generalize ys.length=m at*;clear hl;go_enter func104,ntmps104;go_wp2;go_ret;exact⟨Sp.ret_bool hf.out.symm,Below.refl _ _⟩
end Go.Proofs.YtehihecknhcggaaGreat.Rs
namespace Go.Proofs.YtehihecknhcggaaGreat.Sl
open Go.RowKit Pag
def Lst(w:World)(v:Value)(xs:List Int):Prop:=SlV w 41 1 v xs.length (xs.map encU)
theorem Lst.nil(w:World):Lst w (.slice none 0 0) []:=SlV.nil _ _ _
theorem Lst.words{w:World}{v:Value}{xs:List Int}(h:Lst w v xs)(hs:xs.length≤2000000):∃a cap,v=.slice a xs.length cap∧Rs.Words w a xs:=by
 rcases h.2 with⟨h0,a,rfl⟩|⟨g,off,cap,cur,rfl,hg,_,_,_,hc⟩
 ·exact⟨a,0,by rw[h0],fun i hi=>absurd hi (by omega),by omega⟩
 ·refine⟨_,cap,rfl,fun i hi=>⟨g,off,rfl, ?_⟩,by omega⟩;unfold World.cell?;rw[hg];have:=hc i (by omega);rw[List.getElem?_map,Zg hi] at this;exact this
theorem Lst.frame{w w':World}{v:Value}{xs:List Int}(h:Lst w v xs)(hb:∀g,v.ownBlock=some g→w'.heap[g]? =w.heap[g]?):Lst w' v xs:=SlV.keep h hb
theorem Lst.keep{F:Nat→Prop}{w w':World}{v:Value}{xs:List Int}(h:Lst w v xs)(hm:Mod F w w')(hl:∀g,v.ownBlock=some g→g<w.heap.size)(hF:∀g,v.ownBlock=some g→¬F g):Lst w' v xs:=h.frame fun g hg=>hm.block _ (hl g hg) (hF g hg)
structure Place(xs:List Int)(x:Int)(k:Nat):Prop where
 le:k≤xs.length
 lo:∀(j:Nat) (y:Int),j<k→xs[j]? =some y→y<x
 hi:∀(j:Nat) (y:Int),k≤j→xs[j]? =some y→x≤y
def bsRel(w:World)(xs:List Int)(x:Int)(n:Nat)(vi vj:Value)(wr:World):Prop:=
 ∃i j:Nat,i≤j∧j≤n∧vi=.int .i64 i∧vj=.int .i64 j∧(∀(m:Nat) (y:Int),m<i→xs[m]? =some y→y<x)∧(∀(m:Nat) (y:Int),j≤m→xs[m]? =some y→x≤y)∧wr=w
theorem up_at{xs:List Int}(h:xs.Pairwise (·<·)){i j:Nat}(hij:i≤j){x y:Int}(hx:xs[i]? =some x)(hy:xs[j]? =some y):x≤y:=by
 obtain⟨hi,rfl⟩:=List.getElem?_eq_some_iff.1 hx;obtain⟨hj,rfl⟩:=List.getElem?_eq_some_iff.1 hy;rcases Nat.lt_or_ge i j with g|g
 ·exact Int.le_of_lt ((List.pairwise_iff_getElem.1 h) i j hi hj g)
 ·obtain rfl:i=j:=Nat.le_antisymm hij g;exact Int.le_refl _
theorem isNaN(x:Int)(w:World):Calls Tryz.prog 269 #[.int .u32 x] w fun e w'=>e=.returned (.bool false)∧w'=w:=by
 go_enter func269,ntmps269;go_wp2;go_ret;exact⟨rfl,rfl⟩
theorem bsearch{w:World}{a:Option Addr}{cap:Nat}{xs:List Int}(h:Rs.Words w a xs)(x:Int)(hup:xs.Pairwise (·<·))(hs:xs.length≤2000000):
  Calls Tryz.prog 199 #[.slice a xs.length cap,.int .u32 x] w fun e w'=>∃k,Place xs x k∧e=.returned (.tuple #[.int .i64 k,.bool (decide (xs[k]? =some x))])∧w'=w:=by
 have H:=Lh h;have hl:=hs;have Hup:=Lh hup;obtain⟨n,hn⟩:∃n,xs.length=n:=⟨_,rfl⟩;have Hn:=Lh hn;rw[hn] at hl⊢;clear h hn hup hs;go_enter func199,ntmps199;go_wp2;go_loopw [7,8,9] (fun vi vj _ wr=>bsRel w xs x n vi vj wr) (fun vi vj _ _=>(intOf vj).toNat - (intOf vi).toNat)
 case atStart=>exact⟨0,n,Nat.zero_le _,Nat.le_refl _,by go_num,by go_num,fun m y hm _=>absurd hm (Nat.not_lt_zero _),fun m y hm g=>absurd g (by rw[List.getElem?_eq_none (by rw[Hn.out];exact hm)];exact fun e=>(nomatch e)),rfl⟩
 case round=>
  obtain⟨i,j,hij,hjn,rfl,rfl,hlo,hhi,rfl⟩:=hrel;have HLo:=Lh hlo;have HHi:=Lh hhi;clear hlo hhi
  by_cases hlt:i<j
  ·obtain⟨h,hh⟩:∃h,(i+j) / 2=h:=⟨_,rfl⟩;have h1:i≤h:=by omega
   have h2:h<j:=by omega
   have hx:h<xs.length:=by rw[Hn.out];omega
   obtain⟨g,o,rfl,hc⟩:=H.out.cell h hx;have Hx:=Lh (show xs[h]? =some xs[h] from Zg hx);generalize xs[h]=y at*;have hw:((i:Int)+j) / 2=h:=by omega
   clear hx
   by_cases hy:y<x
   ·have hb:Sort.ltInt y x=true:=decide_eq_true hy;go_wp2_with (go_at_call 268;(with_reducible refine(Srt.less _ _ _).mono ?_);rintro e w2 ⟨rfl,rfl⟩);refine⟨⟨h+1,j,by omega,hjn,by go_num,rfl,fun m z hm hz=> ?_,HHi.out,rfl⟩,by simp[intOf];omega⟩;have:=up_at Hup.out (show m≤h by omega) hz Hx.out;omega
   ·have hb:Sort.ltInt y x=false:=decide_eq_false hy;go_wp2_with (go_at_call 268;(with_reducible refine(Srt.less _ _ _).mono ?_);rintro e w2 ⟨rfl,rfl⟩);refine⟨⟨i,h,by omega,by omega,rfl,by go_num,HLo.out,fun m z hm hz=> ?_,rfl⟩,by simp[intOf];omega⟩;have:=up_at Hup.out hm Hx.out hz;omega
  ·obtain rfl:i=j:=by omega
   by_cases hin:i<n
   ·have hx:i<xs.length:=by rw[Hn.out];exact hin
    obtain⟨g,o,rfl,hc⟩:=H.out.cell i hx;have Hx:=Lh (show xs[i]? =some xs[i] from Zg hx);have HP:Hid (Place xs x i):=Lh ⟨Nat.le_of_lt hx,HLo.out,HHi.out⟩;generalize xs[i]=y at*;clear hx
    by_cases hy:y=x
    ·subst hy;have HD:=Lh (decide_eq_true Hx.out);go_wp2;refine bodyPost_ret (v:=.tuple #[.int .i64 i,.bool true]) (by simp[results,Tryz.results199,go_sem, *]) rfl ?_;exact⟨i,HP.out,by rw[HD.out],rfl⟩
    ·have hyb:(y == x)=false:=beq_eq_false_iff_ne.2 hy;have HD:Hid (decide (xs[i]? =some x)=false):=Lh (decide_eq_false (by rw[Hx.out];exact fun e=>hy (Option.some.inj e)));go_wp2_with (go_at_call 269;(with_reducible refine(isNaN _ _).mono ?_);rintro e w2 ⟨rfl,rfl⟩);refine bodyPost_ret (v:=.tuple #[.int .i64 i,.bool false]) (by simp[results,Tryz.results199,go_sem, *]) rfl ?_;exact⟨i,HP.out,by rw[HD.out],rfl⟩
   ·obtain rfl:i=n:=by omega
    have HP:Hid (Place xs x i):=Lh ⟨Nat.le_of_eq Hn.out.symm,HLo.out,HHi.out⟩;have HD:Hid (decide (xs[i]? =some x)=false):=Lh (decide_eq_false (by rw[List.getElem?_eq_none (Nat.le_of_eq Hn.out)];exact fun e=>(nomatch e)));go_wp2;refine bodyPost_ret (v:=.tuple #[.int .i64 i,.bool false]) (by simp[results,Tryz.results199,go_sem, *]) rfl ?_;exact⟨i,HP.out,by rw[HD.out],rfl⟩
theorem clone{w:World}{v:Value}{xs:List Int}(h:Lst w v xs)(hs:xs.length≤2000000):
  Calls Tryz.prog 81 #[v] w fun e w'=>∃v',e=.returned v'∧Lst w' v' xs∧(∀b,v'.ownBlock=some b→w.heap.size≤b)∧Below w.heap.size w w':=by
 obtain⟨i0,hi0,hz0,hz1,hz2⟩:=info_parts infoU32;have H:=Lh h;rcases h.2 with⟨h0,a,rfl⟩|⟨g,off,cap,cur,rfl,hg,hnc,hcm,hcs,hc⟩
 ·obtain rfl:xs=[]:=List.length_eq_zero_iff.1 h0;clear h h0;cases a with
  |none=>
   go_enter func81,ntmps81;have hq:=fun W=>Lib.run_eql_slice_nil (P:=Tryz.prog) W _ _ none 0 0 0 0 Tryz.underlying42
   go_wp2
   first
    |(go_ret;exact⟨_,rfl,H.out,fun b hb=>(nomatch hb),Below.refl _ _⟩)
    |(refine bodyPost_ret (v:=.slice none 0 0) (by simp[results,Tryz.results81,go_sem, *]) rfl ?_;exact⟨_,rfl,H.out,fun b hb=>(nomatch hb),Below.refl _ _⟩)
  |some a=>
   have hq:=fun W=>Lib.run_eql_slice_nil (P:=Tryz.prog) W _ _ (some a) 0 0 0 0 Tryz.underlying42
   go_enter func81,ntmps81;have HB:Hid (Below w.heap.size w (w.alloc (.cells #[] 41))):=Lh (Ba _);have HL:Hid (Lst (w.alloc (.cells #[] 41)) (.slice (some ⟨w.heap.size,0,none⟩) 0 0) []):=Lh ⟨rfl,.inl ⟨rfl,_,rfl⟩⟩;go_wp2;go_ret;exact⟨_,rfl,HL.out,fun b hb=>by injection hb with hb;exact Nat.le_of_eq hb,HB.out⟩
 ·obtain⟨n,hn⟩:∃n,xs.length=n:=⟨_,rfl⟩;rw[hn] at h hs hnc hc⊢;have hq:=fun W=>Lib.run_eql_slice_nil (P:=Tryz.prog) W _ _ (some ⟨g,off,none⟩) n cap 0 0 Tryz.underlying42
  have hcl:∀j u,(xs.map encU)[j]? =some u→(w.alloc (.cells #[] 41)).cell? ((⟨g,off,none⟩:Addr).add j)=some u:=fun j u hu=>by
   have hj:j<n:=by have:=(List.getElem?_eq_some_iff.1 hu).1;simpa [hn] using this
   rw[Addr.add_lit];unfold World.cell?;rw[Below.heap_alloc _ _ _ (lQ hg),hg];exact(hc j (by omega)).trans hu
  clear h hg hnc hcm hcs hc
  by_cases h0:n=0
  ·subst h0;obtain rfl:xs=[]:=List.length_eq_zero_iff.1 hn;have HB:Hid (Below w.heap.size w (w.alloc (.cells #[] 41))):=Lh (Ba _);have HL:Hid (Lst (w.alloc (.cells #[] 41)) (.slice (some ⟨w.heap.size,0,none⟩) 0 0) []):=Lh ⟨rfl,.inl ⟨rfl,_,rfl⟩⟩;go_enter func81,ntmps81;go_wp2;go_ret;exact⟨_,rfl,HL.out,fun b hb=>by injection hb with hb;exact Nat.le_of_eq hb,HB.out⟩
  ·have HB:Hid (Below w.heap.size w (w.alloc (.cells #[] 41))):=Lh (Ba _);have HN:Hid (SlV (w.alloc (.cells #[] 41)) 41 1 (.slice (some ⟨w.heap.size,0,none⟩) 0 0) 0 []):=Lh ⟨rfl,.inl ⟨rfl,_,rfl⟩⟩;have HC:Hid (∀j u,(xs.map encU)[j]? =some u→(w.alloc (.cells #[] 41)).cell? ((⟨g,off,none⟩:Addr).add j)=some u):=Lh hcl;have HLn:=Lh hn;have hml:n≤maxLen:=by unfold maxLen;omega
   clear hn hcl;go_enter func81,ntmps81;go_wp2_with (at_builtin;refine wpList_append_slv _ rfl _ _ 42 rfl 41 i0 (.int .u32 0) 1 4 Tryz.underlying42 hi0 hz0 hz1 hz2 rfl (by decide) _ 0 [] rfl HN.out ⟨g,off,none⟩ n cap (xs.map encU) rfl (by omega) (by rw[List.length_map,HLn.out,Nat.mul_one]) HC.out (by simp[Value.oneCell']) (by omega) (by omega) ?_;intro v2 w2 hl2 hm2 hb2);go_ret;refine⟨v2,rfl, ?_, ?_, ?_⟩
   ·have:=hl2;rw[Nat.zero_add,List.nil_append,←HLn.out] at this;exact this
   ·intro b hb;have hb3:v2.ownBlock=some w.heap.size∨∃k,v2.ownBlock=some k∧(w.alloc (.cells #[] 41)).heap.size≤k:=hb2;rcases hb3 with g2|⟨k,g2,g3⟩
    ·rw[g2] at hb
     injection hb with hb
     exact Nat.le_of_eq hb
    ·rw[g2] at hb
     injection hb with hb
     simp at g3;omega
   ·refine Mod.below HB.out hm2 (by simp) fun i _ hi=> ?_
    injection hi with hi
    exact Nat.le_of_eq hi
end Go.Proofs.YtehihecknhcggaaGreat.Sl
namespace Go.Proofs.YtehihecknhcggaaGreat.Sl
open Go.RowKit Pag
theorem wp_copy_at{P:Program}(w:World){o:Oper}{a:Act}{K:Act→World→Prop}{Q:Exit→Act→World→Prop}(d s:Operand)(t t':TypeId)
  (ho:o.op=.call {callee:=.builtin .copy,args:= #[d,s],argTypes:= #[t,t']}) (v u:Value) (hd:a.eval d=v) (hs:a.eval s=u) {v':Value} {w':World}
  (hr:(Builtin.copy_ #[t,t'] o.type #[v,u]).run P w=.ok v' w') (h:K (a.put o.dst v') w'):o.wp P a w K Q:=by
 unfold Oper.wp execOp;simp only[ho,resolve,invoke,builtin,Sem.run_bind,Sem.run_pure,Result.andThen_ok,List.map_toArray,List.map_cons,List.map_nil,hd,hs,hr];exact h
theorem wpList_copy_at{P:Program}(w:World){ops:Array Oper}{rest:List Oper}{o:Oper}{a:Act}{Q:Exit→Act→World→Prop}(hgd:o.guard=none)(d s:Operand)(t t':TypeId)
  (ho:o.op=.call {callee:=.builtin .copy,args:= #[d,s],argTypes:= #[t,t']}) (v u:Value) (hd:a.eval d=v) (hs:a.eval s=u) {v':Value} {w':World}
  (hr:(Builtin.copy_ #[t,t'] o.type #[v,u]).run P w=.ok v' w') (h:wpList P ops Q rest (a.put o.dst v') w'):wpList P ops Q (o::rest) a w:=
 wpList_plain hgd fun _ hK=>wp_copy_at w d s t t' ho v u hd hs hr (hK _ _ h)
theorem step_copy_at{P:Program}{ops:Array Oper}{o:Oper}{a:Act}{w:World}{K:Act→World→Prop}{Q:Exit→Act→World→Prop}{E:Prop}
  (hg:o.guard=none) (d x:Operand) (dT sT:TypeId) (hop:o.op=Op.call {callee:=Callee.builtin Builtin.copy,args:= #[d,x],argTypes:= #[dT,sT]})
  (v u:Value) (hd:a.eval d=v) (hx:a.eval x=u) {v':Value} {w':World} (hr:(Builtin.copy_ #[dT,sT] o.type #[v,u]).run P w=.ok v' w') (hK:K (a.put o.dst v') w'):
  if Region.wanted o (yielded ops a.tmps)=true then Oper.wp P o a w K Q else E:=by
 have hw:Region.wanted o (yielded ops a.tmps)=true:=by simp[Region.wanted,hg]
 rw[if_pos hw];exact wp_copy_at w d x dT sT hop v u hd hx hr hK
def InsPost(w:World)(v:Value)(xs:List Int)(k:Nat)(x:Int)(e:Ending)(w':World):Prop:=
 ∃v',e=.returned v'∧Lst w' v' (xs.take k++x::xs.drop k)∧Mod (fun b=>v.ownBlock=some b) w w'∧∀b,v'.ownBlock=some b→v.ownBlock=some b∨w.heap.size≤b
theorem one_cell{w:World}{vb:Nat}{x:Int}(hv:w.heap[vb]? =some (.cells #[.int .u32 x] 41 (0,0))):∀j u,[Value.int .u32 x][j]? =some u→w.cell? ((⟨vb,0,none⟩:Addr).add j)=some u:=fun j u hu=>by
 rw[Addr.add_lit,Nat.zero_add];unfold World.cell?;rw[hv]
 simpa using hu
theorem insert_end{w:World}{v:Value}{xs:List Int}(h:Lst w v xs)(x:Int)(hs:xs.length≤2000000)(vb:Nat)(hv:w.heap[vb]? =some (.cells #[.int .u32 x] 41 (0,0))):
  Calls Tryz.prog 200 #[v,.int .i64 xs.length,.slice (some ⟨vb,0,none⟩) 1 1] w (InsPost w v xs xs.length x):=by
 obtain⟨i0,hi0,hz0,hz1,hz2⟩:=info_parts infoU32;have H:=Lh h;have HC:=Lh (one_cell hv);obtain⟨n,hn⟩:∃n,xs.length=n:=⟨_,rfl⟩;have HF:Hid (∀v' w',SlV w' 41 1 v' (xs.length+1) (xs.map encU++[.int .u32 x])→Mod (fun k=>v.ownBlock=some k) w w'→(v'.ownBlock=v.ownBlock∨∃k,v'.ownBlock=some k∧w.heap.size≤k)→InsPost w v xs xs.length x (.returned v') w'):=Lh fun v' w' h1 h2 h3=>by
  refine⟨v',rfl, ?_,h2,fun b hb=> ?_⟩
  ·unfold Lst;rw[List.take_length,List.drop_length,List.length_append,List.map_append];exact h1
  ·rcases h3 with g|⟨k,g1,g2⟩
   ·exact .inl (g▸hb)
   ·rw[g1] at hb;injection hb with hb;exact .inr (hb▸g2)
 generalize InsPost w v xs xs.length x=PQ at*;unfold Lst at H;obtain⟨a,cap,rfl⟩:=h.form;have hnc:n≤cap:=by
  rcases h.2 with⟨h0,_,_⟩|⟨g,off,cap',cur,e,hg,hnc,_⟩
  ·omega
  ·simp only[Value.slice.injEq] at e;omega
 have hcap:cap≤9223372036854775807:=by
  rcases h.2 with⟨h0,_,e⟩|⟨g,off,cap',cur,e,hg,_,hcm,_⟩
  ·simp only[Value.slice.injEq] at e;omega
  ·simp only[Value.slice.injEq] at e;unfold maxLen at hcm;omega
 rw[hn] at H HF hs⊢;clear h hv;have hml:n+1≤maxLen:=by unfold maxLen;omega
 have hby:(n+1)*4≤140737488355328:=by omega
 have HLn:=Lh hn;have HX:Hid ((xs.map encU).length=n*1):=Lh (by rw[List.length_map,hn,Nat.mul_one]);clear hn;generalize xs.map encU=cs at*;cases a with
 |none=>
  go_enter func200,ntmps200;go_wp2_with (at_builtin;refine wpList_append_slv _ rfl _ _ 42 rfl 41 i0 (.int .u32 0) 1 4 Tryz.underlying42 hi0 hz0 hz1 hz2 rfl (by decide) _ n cs rfl H.out ⟨vb,0,none⟩ 1 1 [.int .u32 x] rfl (by omega) rfl HC.out (by simp[Value.oneCell']) hml hby ?_;intro v2 w2 hl2 hm2 hb2)
  all_goals exact HF.out v2 w2 hl2 hm2 hb2
 |some a=>
  obtain⟨g,off,sp⟩:=a;go_enter func200,ntmps200;go_wp2_with (at_builtin;refine wpList_append_slv _ rfl _ _ 42 rfl 41 i0 (.int .u32 0) 1 4 Tryz.underlying42 hi0 hz0 hz1 hz2 rfl (by decide) _ n cs rfl H.out ⟨vb,0,none⟩ 1 1 [.int .u32 x] rfl (by omega) rfl HC.out (by simp[Value.oneCell']) hml hby ?_;intro v2 w2 hl2 hm2 hb2)
  all_goals exact HF.out v2 w2 hl2 hm2 hb2
theorem insert_shift{w:World}{g off cap:Nat}{cur:Array Value}{xs:List Int}(hg:w.heap[g]? =some (.cells cur 41 (0,0)))(hcm:cap≤maxLen)(hcs:off+cap*1≤cur.size)(hc:∀j,j<xs.length*1→cur[off+j]? =(xs.map encU)[j]?)
  (x:Int) (k:Nat) (hk:k<xs.length) (hroom:xs.length+1≤cap) (hs:xs.length≤2000000) (vb:Nat) (hv:w.heap[vb]? =some (.cells #[.int .u32 x] 41 (0,0))) (hvg:vb≠g):
  Calls Tryz.prog 200 #[.slice (some ⟨g,off,none⟩) xs.length cap,.int .i64 k,.slice (some ⟨vb,0,none⟩) 1 1] w (InsPost w (.slice (some ⟨g,off,none⟩) xs.length cap) xs k x):=by
 obtain⟨i0,hi0,hz0,hz1,hz2⟩:=info_parts infoU32;have hsz:(Tryz.prog.info? 41).map (·.size)=some 1:=by rw[hi0];simp[hz1]
 obtain⟨n,hn⟩:∃n,xs.length=n:=⟨_,rfl⟩;rw[hn] at hk hroom hs hc⊢;obtain⟨news,hnews⟩:∃news,news=(xs.drop k).map encU:=⟨_,rfl⟩;have hlen:news.length=n - k:=by rw[hnews];simp[hn]
 have hcell:∀j,j<n→w.cell? ⟨g,off+j,none⟩=(xs.map encU)[j]? :=fun j hj=>by
  unfold World.cell?;rw[hg];exact hc j (by omega)
 have hsome:∀j,j<n+1→(w.cell? ⟨g,off+j,none⟩).isSome=true:=fun j hj=>by
  unfold World.cell?;rw[hg];simp[Array.getElem?_eq_getElem (show off+j<cur.size by omega)]
 have hfree:∀(j:Nat),w.frozen? ⟨g,j,none⟩=false:=fun j=>by
  unfold World.frozen?;rw[hg]
  simp
 have hsa:w.shape? vb=some (41,1):=by unfold World.shape?;rw[hv];rfl
 have hsb:w.shape? g=some (41,cur.size):=by unfold World.shape?;rw[hg]
 have hfv:∀j,w.frozen? ⟨vb,j,none⟩=false:=fun j=>by unfold World.frozen?;rw[hv];simp
 have hov:∀lb cb,(callFunc 270 #[.slice (some ⟨vb,0,none⟩) 1 1,.slice (some ⟨g,off+(k+1),none⟩) lb cb]).run Tryz.prog w=.ok (.value (.bool false)) w:=fun lb cb=>by
  rw[run_callFunc_extern func270 (by kernel_rfl) (by kernel_rfl) (by kernel_rfl) (e:=Extern.SlicesOverlaps.overlaps #[42,42] #[4]) (by kernel_rfl),
   Lib.run_overlaps_apart w 42 4 41 Tryz.underlying42 1 Tryz.sizeOf41 ⟨vb,0,none⟩ ⟨g,off+(k+1),none⟩ 1 1 lb cb hvg _ _ _ _ hsa hsb (by omega) (hfv _) (hfv _)]
  rfl
 have hsrc:∀t u,news[t]? =some u→w.cell? ⟨g,off+k+t,none⟩=some u:=fun t u hu=>by
  have ht:t<n - k:=by rw[←hlen];exact(List.getElem?_eq_some_iff.1 hu).1
  rw[hnews,List.getElem?_map,List.getElem?_drop,←List.getElem?_map,←hcell _ (by omega)] at hu;rw[Nat.add_assoc];exact hu
 have h1c:∀u∈news,u.oneCell'=true:=fun u hu=>by
  rw[hnews] at hu;obtain⟨x,_,rfl⟩:=List.mem_map.1 hu;rfl
 have hcp1:∀ty dc sc,(Builtin.copy_ #[42,42] ty #[.slice (some ⟨g,off+(k+1),none⟩) (n - k) dc,.slice (some ⟨g,off+k,none⟩) (n+1 - k) sc]).run Tryz.prog w.drew=.ok (goInt news.length) (w.drew.setCells g (off+(k+1)) news):=fun ty dc sc=>
  run_copy_cells w.drew _ _ ty 41 g (off+(k+1)) (n - k) dc ⟨g,off+k,none⟩ (n+1 - k) sc news Tryz.underlying42 hsz (by rw[hlen];simp only[Nat.min_def];split<;>omega)
   (fun j v hj=>by rw[Addr.add_lit];exact hsrc j v hj)
   (fun j hj=>by rw[Nat.add_assoc];exact hsome _ (by omega)) (fun j hj=>hfree _) h1c
 obtain⟨W1,hW1⟩:∃W1,W1=w.drew.setCells g (off+(k+1)) news:=⟨_,rfl⟩;obtain⟨cur1,c1,c2,c3,c4⟩:=heap_setCells_same g 41 news w.drew (off+(k+1)) cur hg (by rw[hlen];omega);have m1:=mod_setCells g news w.drew (off+(k+1));rw[←hW1] at c1 m1 hcp1;have hv1:W1.heap[vb]? =some (.cells #[.int .u32 x] 41 (0,0)):=(m1.block _ (lQ hv) hvg).trans hv;have hcp2:∀ty dc,(Builtin.copy_ #[42,42] ty #[.slice (some ⟨g,off+k,none⟩) (n+1 - k) dc,.slice (some ⟨vb,0,none⟩) 1 1]).run Tryz.prog W1=.ok (goInt 1) (W1.setCells g (off+k) [.int .u32 x]):=fun ty dc=>
  run_copy_cells W1 _ _ ty 41 g (off+k) (n+1 - k) dc ⟨vb,0,none⟩ 1 1 [.int .u32 x] Tryz.underlying42 hsz (by simp only[Nat.min_def,List.length_singleton];split<;>omega)
   (one_cell hv1) (fun j hj=>by unfold World.cell?;rw[c1];simp at hj;simp[hj,Array.getElem?_eq_getElem (show off+k<cur1.size by omega)]) (fun j hj=>by unfold World.frozen?;rw[c1];simp) (by simp[Value.oneCell'])
 have hset:W1.setCells g (off+k) [.int .u32 x]=W1.setCell ⟨g,off+k,none⟩ (.int .u32 x):=by simp[World.setCells]
 have d1:=heap_setCell_same W1 g (off+k) cur1 41 (.int .u32 x) c1;have HFin:Hid (InsPost w (.slice (some ⟨g,off,none⟩) n cap) xs k x (.returned (.slice (some ⟨g,off,none⟩) (n+1) cap)) (W1.setCells g (off+k) [.int .u32 x])):=by
  have hL:(xs.take k++x::xs.drop k).length=n+1:=by simp[hn];omega
  have hT:(xs.take k).length=k:=by rw[List.length_take];omega
  refine Lh ⟨_,rfl,⟨by simp,.inr ⟨g,off,cap,_,by rw[hL],by rw[hset];exact d1,by rw[hL];exact hroom,hcm,by rw[Array.size_setIfInBounds,c2];exact hcs,fun t ht=> ?_⟩⟩, ?_,fun b hb=>.inl hb⟩
  ·rw[hL] at ht;rw[Array.getElem?_setIfInBounds,List.getElem?_map];rcases Nat.lt_trichotomy t k with e|e|e
   ·rw[if_neg (by omega),c3 _ (by omega),hc t (by omega),List.getElem?_map,List.getElem?_append_left (by omega),List.getElem?_take_of_lt e]
   ·subst e;rw[if_pos rfl,if_pos (by omega),List.getElem?_append_right (by omega),hT,Nat.sub_self];rfl
   ·rw[if_neg (by omega)];have:=c4 (t - (k+1)) (by rw[hlen];omega);rw[show off+(k+1)+(t - (k+1))=off+t by omega] at this;rw[this,hnews,List.getElem?_map,List.getElem?_append_right (by omega),hT,show t - k=(t - (k+1))+1 by omega];rfl
  ·have m2:=mod_setCells g [.int .u32 x] W1 (off+k);have m0:Mod (fun i=>i=g) w w.drew:=(Mod.refl _ _).drew;exact((m0.same m1).same m2).mono fun i _ hi=>by rw[hi];rfl
 have hz2:¬((k:Int)=n):=by omega
 have mixed:Tryz.prog.follows .mixedOrders=true:=by kernel_rfl
 have hw1:IntKind.i64.wrap ((k:Int)+1)=(k:Int)+1:=by rw[IntKind.wrap_i64];omega
 have hb1:(0:Int)≤(k:Int)+1:=by omega
 have hin:k≤n:=by omega
 have htn:((k:Int)+1).toNat=k+1:=by omega
 have hb2:¬(cap=k+1):=by omega
 have hb3:(k:Int)≤(n:Int)+1:=by omega
 have hb4:¬(cap=k):=by omega
 have hc63:cap≤9223372036854775807:=by unfold maxLen at hcm;omega
 generalize InsPost w (.slice (some ⟨g,off,none⟩) n cap) xs k x=PQ at*;clear hW1 c1 c2 c3 c4 d1 hset m1 hnews hlen hsome hfree hcell hc hg hn hsrc h1c hv1 hv hfv hsa hsb;go_enter func200,ntmps200;go_wp2_with (simp only[hov]);go_region_law_o (refine step_copy_at rfl _ _ 42 42 rfl _ _ (by simp[Act.eval,Act.put]) (by simp[Act.eval,Act.put]) (hcp1 _ _ _) ?_);go_wp2_with (at_builtin;refine wpList_copy_at _ rfl _ _ 42 42 rfl _ _ rfl rfl (hcp2 _ _) ?_);exact HFin.out
theorem run_append_zeros{P:Program}(w:World)(t tn ty e:TypeId)(i:TypeInfo)(z:Value)(k kn:IntKind)(ht:P.underlying t=some (.slice e))(htn:P.underlying tn=some (.int kn))(hi:P.info? e=some i)(hz:i.zero=some z)
  (base:Option Addr) (sLen sCap:Nat) (olds:List Value) (hold:(Builtin.firstCells i.size sLen (.slice base sLen sCap)).run P w.drew=.ok olds.toArray w.drew)
  (n:Nat) (h0:0<n) (hs:0<i.size) (hg:sCap<sLen+n) (h63:((sLen+n:Nat):Int)≤9223372036854775807) (hfit:Builtin.nextslicecap (sLen+n) sCap*i.bytes≤281474976710656) (h48:n*i.bytes≤281474976710656):
  (Builtin.append_ #[t,tn] ty #[.slice base sLen sCap,.int k n]).run P w=
   .ok (.slice (some ⟨w.heap.size,0,none⟩) (sLen+n) (grownCap w (sLen+n) sCap e)) (w.drew.alloc (.cells (olds.toArray++Builtin.zeroCells z.cells n++Builtin.zeroCells z.cells (grownCap w (sLen+n) sCap e - (sLen+n))) e)):=by
 have hn:n≠0:=by omega
 have hnr:¬(sLen+n≤sCap):=by omega
 have hw:IntKind.i64.wrap (n:Int)=n:=by rw[IntKind.wrap_i64];omega
 have h63':¬(9223372036854775807<((sLen:Int)+(n:Int))):=by omega
 have h63n:¬(9223372036854775807<(n:Int)):=by omega
 have h48':¬(281474976710656<Builtin.nextslicecap (sLen+n) sCap*i.bytes):=by omega
 have h48i:¬(281474976710656<(n:Int)*(i.bytes:Int)):=by
  rw[←Int.natCast_mul];omega
 have hneg:¬((n:Int)<0):=by omega
 have hns:¬(n*i.size=0):=Nat.mul_ne_zero hn (by omega);simp[Builtin.append_,run_underlying ht,run_underlying htn,sizeOf,typeInfo,zeroValue,hi,hz,asInt,asIntOf,hw,hn,hnr,hneg,hns,h63',h63n,h48',h48i,Question.forced,hold,newRow,grownCap]
theorem insert_grow{w:World}{g off cap:Nat}{cur:Array Value}{xs:List Int}(hg:w.heap[g]? =some (.cells cur 41 (0,0)))(hcm:cap≤maxLen)(hcs:off+cap*1≤cur.size)(hc:∀j,j<xs.length*1→cur[off+j]? =(xs.map encU)[j]?)
  (x:Int) (k:Nat) (hk:k<xs.length) (hnc:xs.length≤cap) (hroom:cap<xs.length+1) (hs:xs.length≤2000000) (vb:Nat) (hv:w.heap[vb]? =some (.cells #[.int .u32 x] 41 (0,0))):
  Calls Tryz.prog 200 #[.slice (some ⟨g,off,none⟩) xs.length cap,.int .i64 k,.slice (some ⟨vb,0,none⟩) 1 1] w (InsPost w (.slice (some ⟨g,off,none⟩) xs.length cap) xs k x):=by
 obtain⟨i0,hi0,hz0,hz1,hz2⟩:=info_parts infoU32;have hsz:(Tryz.prog.info? 41).map (·.size)=some 1:=by rw[hi0];simp[hz1]
 obtain⟨n,hn⟩:∃n,xs.length=n:=⟨_,rfl⟩;rw[hn] at hk hnc hroom hs hc⊢;obtain rfl:cap=n:=by omega
 obtain⟨news,hnews⟩:∃news,news=(xs.drop k).map encU:=⟨_,rfl⟩;have hlen:news.length=cap - k:=by rw[hnews];simp[hn]
 have hcell:∀j,j<cap→w.cell? ⟨g,off+j,none⟩=(xs.map encU)[j]? :=fun j hj=>by
  unfold World.cell?;rw[hg];exact hc j (by omega)
 have hold:(Builtin.firstCells i0.size k (.slice (some ⟨g,off,none⟩) k cap)).run Tryz.prog w.drew=.ok ((xs.take k).map encU).toArray w.drew:=by
  rw[hz1];exact run_firstCells_some w.drew 1 k ⟨g,off,none⟩ k cap _ (by simp[hn];omega) (fun j v hj=>by
   have hjk:j<k:=by have:=(List.getElem?_eq_some_iff.1 hj).1;simp[hn] at this;omega
   rw[Addr.add_lit];refine(hcell j (by omega)).trans ?_;rw[List.getElem?_map] at hj⊢;rw[List.getElem?_take_of_lt hjk] at hj;exact hj)
 have hrun:=fun ty=>run_append_zeros (P:=Tryz.prog) w 42 3 ty 41 i0 _ .i64 .i64 Tryz.underlying42 Tryz.underlying3 hi0 hz0 (some ⟨g,off,none⟩) k cap _ hold (cap+1 - k) (by omega) (by omega) (by omega) (by omega) (growslice_fits (by omega) (by rw[hz2];omega)) (by rw[hz2];omega)
 rw[show k+(cap+1 - k)=cap+1 by omega] at hrun;have hge:=grownCap_ge w (cap+1) cap 41;have hgm:=grownCap_le_maxLen w (cap+1) cap 41 (by unfold maxLen;omega);generalize grownCap w (cap+1) cap 41=gc at*;obtain⟨E,hE⟩:∃E,((xs.take k).map encU).toArray++Builtin.zeroCells (Value.int .u32 0).cells (cap+1 - k)++Builtin.zeroCells (Value.int .u32 0).cells (gc - (cap+1))=E:=⟨_,rfl⟩;rw[hE] at hrun;have hEs:E.size=gc:=by
  rw[←hE];simp only[Array.size_append,size_zeroCells,List.size_toArray,List.length_map,List.length_take];have:(Value.int IntKind.u32 0).cells.size=1:=rfl;rw[this];omega
 have hEg:∀t,t<k→E[t]? =(xs.map encU)[t]? :=fun t ht=>by
  rw[←hE,Array.append_assoc,Array.getElem?_append_left (by simp[hn];omega)];simp[List.getElem?_take_of_lt ht]
 obtain⟨q,hq⟩:∃q,w.heap.size=q:=⟨_,rfl⟩;have hgl:=lQ hg;have hvl:=lQ hv;obtain⟨W0,hW0⟩:∃W0,W0=w.drew.alloc (.cells E 41):=⟨_,rfl⟩;rw[hq] at hrun hgl hvl;rw[←hW0] at hrun;have c0:W0.heap[q]? =some (.cells E 41 (0,0)):=by rw[hW0,←hq];exact heap_alloc_new w.drew _
 have hbel0:Below q w W0:=by rw[hW0,←hq];exact Br.drew.alloc (Nat.le_refl _) _
 have hcp2:∀ty dc,(Builtin.copy_ #[42,42] ty #[.slice (some ⟨q,k,none⟩) (cap+1 - k) dc,.slice (some ⟨vb,0,none⟩) 1 1]).run Tryz.prog W0=.ok (goInt 1) (W0.setCells q k [.int .u32 x]):=fun ty dc=>
  run_copy_cells W0 _ _ ty 41 q k (cap+1 - k) dc ⟨vb,0,none⟩ 1 1 [.int .u32 x] Tryz.underlying42 hsz (by simp only[Nat.min_def,List.length_singleton];split<;>omega)
   (one_cell ((hbel0.block _ hvl).trans hv)) (fun j hj=>by unfold World.cell?;rw[c0];simp at hj;simp[hj,Array.getElem?_eq_getElem (show k<E.size by omega)]) (fun j hj=>by unfold World.frozen?;rw[c0];simp) (by simp[Value.oneCell'])
 have hset:W0.setCells q k [.int .u32 x]=W0.setCell ⟨q,k,none⟩ (.int .u32 x):=by simp[World.setCells]
 have c1:=heap_setCell_same W0 q k E 41 (.int .u32 x) c0;obtain⟨W1,hW1⟩:∃W1,W1=W0.setCells q k [.int .u32 x]:=⟨_,rfl⟩;rw[←hW1] at hcp2;rw[←hset,←hW1] at c1;have hbel1:Below q w W1:=by
  rw[hW1];refine Mod.below hbel0 (mod_setCells q _ W0 k) (Nat.le_of_lt (lQ c0)) fun i _ hi=> ?_
  exact Nat.le_of_eq hi.symm
 have hsrc:∀t u,news[t]? =some u→W1.drew.cell? ((⟨g,off+k,none⟩:Addr).add t)=some u:=fun t u hu=>by
  have ht:t<cap - k:=by rw[←hlen];exact(List.getElem?_eq_some_iff.1 hu).1
  rw[hnews,List.getElem?_map,List.getElem?_drop,←List.getElem?_map,←hcell _ (by omega)] at hu;rw[Addr.add_lit,Nat.add_assoc];exact(hbel1.cell (p:=⟨g,off+(k+t),none⟩) hgl).trans hu
 have h1c:∀u∈news,u.oneCell'=true:=fun u hu=>by
  rw[hnews] at hu;obtain⟨x,_,rfl⟩:=List.mem_map.1 hu;rfl
 have hcp1:∀ty dc sc,(Builtin.copy_ #[42,42] ty #[.slice (some ⟨q,k+1,none⟩) (cap - k) dc,.slice (some ⟨g,off+k,none⟩) (cap - k) sc]).run Tryz.prog W1.drew=.ok (goInt news.length) (W1.drew.setCells q (k+1) news):=fun ty dc sc=>
  run_copy_cells W1.drew _ _ ty 41 q (k+1) (cap - k) dc ⟨g,off+k,none⟩ (cap - k) sc news Tryz.underlying42 hsz (by rw[hlen];simp only[Nat.min_def];split<;>omega)
   hsrc
   (fun j hj=>by
    rw[hlen] at hj
    show(W1.cell? _).isSome=true
    unfold World.cell?;rw[c1];simp[Array.getElem?_eq_getElem (show k+1+j<(E.setIfInBounds k (.int .u32 x)).size by rw[Array.size_setIfInBounds,hEs];omega)])
   (fun j hj=>by show W1.frozen? _=false;unfold World.frozen?;rw[c1];simp) h1c
 obtain⟨cur2,d1,d2,d3,d4⟩:=heap_setCells_same q 41 news W1.drew (k+1) _ c1 (by rw[Array.size_setIfInBounds,hlen];omega);have hbel2:Below q w (W1.drew.setCells q (k+1) news):=by
  refine Mod.below hbel1.drew (mod_setCells q news W1.drew (k+1)) (Nat.le_of_lt (lQ c1)) fun i _ hi=> ?_
  exact Nat.le_of_eq hi.symm
 have HFin:Hid (InsPost w (.slice (some ⟨g,off,none⟩) cap cap) xs k x (.returned (.slice (some ⟨q,0,none⟩) (cap+1) gc)) (W1.drew.setCells q (k+1) news)):=by
  have hL:(xs.take k++x::xs.drop k).length=cap+1:=by simp[hn];omega
  have hT:(xs.take k).length=k:=by rw[List.length_take];omega
  refine Lh ⟨_,rfl,⟨by simp,.inr ⟨q,0,gc,cur2,by rw[hL],d1,by rw[hL];exact hge,hgm,by rw[d2,Array.size_setIfInBounds,hEs];omega,fun t ht=> ?_⟩⟩, ?_,fun b hb=> ?_⟩
  ·rw[hL] at ht;rw[Nat.zero_add,List.getElem?_map];rcases Nat.lt_trichotomy t k with e|e|e
   ·rw[d3 _ (by omega),Array.getElem?_setIfInBounds,if_neg (by omega),hEg t e,List.getElem?_map,List.getElem?_append_left (by omega),List.getElem?_take_of_lt e]
   ·subst e;rw[d3 _ (by omega),Array.getElem?_setIfInBounds,if_pos rfl,if_pos (by omega),List.getElem?_append_right (by omega),hT,Nat.sub_self];rfl
   ·have:=d4 (t - (k+1)) (by rw[hlen];omega);rw[show k+1+(t - (k+1))=t by omega] at this;rw[this,hnews,List.getElem?_map,List.getElem?_append_right (by omega),hT,show t - k=(t - (k+1))+1 by omega];rfl
  ·subst hq;exact Mod.of_below hbel2 _
  ·injection hb with hb
   exact .inr (Nat.le_of_eq (hq.trans hb))
 have hz2:¬((k:Int)=cap):=by omega
 have mixed:Tryz.prog.follows .mixedOrders=true:=by kernel_rfl
 have hw1:IntKind.i64.wrap ((k:Int)+1)=(k:Int)+1:=by rw[IntKind.wrap_i64];omega
 have hb1:(0:Int)≤(k:Int)+1:=by omega
 have hin:k≤cap:=by omega
 have htn:((k:Int)+1).toNat=k+1:=by omega
 have hb2:¬(gc=k+1):=by omega
 have hb3:(k:Int)≤(cap:Int)+1:=by omega
 have hb4:¬(gc=k):=by omega
 have hb5:¬(cap=k):=by omega
 have hsub:(cap:Int)+1 - k=((cap+1 - k:Nat):Int):=by omega
 have hc63:gc≤9223372036854775807:=by unfold maxLen at hgm;omega
 generalize InsPost w (.slice (some ⟨g,off,none⟩) cap cap) xs k x=PQ at*;clear hW0 hW1 c0 c1 d1 d2 d3 d4 hset hnews hlen hcell hold hc hg hn hsrc h1c hv hE hEs hEg hbel0 hbel1 hbel2 hq;go_enter func200,ntmps200;go_wp2_with (at_builtin;refine Lib.wpList_append_run _ rfl _ _ _ _ rfl _ _ rfl rfl _ _ (hrun _) ?_);go_region_law_o (refine step_copy_at rfl _ _ 42 42 rfl _ _ (by simp[Act.eval,Act.put]) (by simp[Act.eval,Act.put]) (hcp1 _ _ _) ?_);go_wp2;exact HFin.out
theorem insert{w:World}{v:Value}{xs:List Int}(h:Lst w v xs)(x:Int)(k:Nat)(hk:k≤xs.length)(hs:xs.length≤2000000)(vb:Nat)(hv:w.heap[vb]? =some (.cells #[.int .u32 x] 41 (0,0)))(hvg:v.ownBlock≠some vb):
  Calls Tryz.prog 200 #[v,.int .i64 k,.slice (some ⟨vb,0,none⟩) 1 1] w (InsPost w v xs k x):=by
 by_cases e:k=xs.length
 ·rw[e];exact insert_end h x hs vb hv
 ·rcases h.2 with⟨h0,a,rfl⟩|⟨g,off,cap,cur,rfl,hg,hnc,hcm,hcs,hc⟩
  ·omega
  ·by_cases hroom:xs.length+1≤cap
   ·exact insert_shift hg hcm hcs hc x k (by omega) hroom hs vb hv fun e=>hvg (by rw[e];rfl)
   ·exact insert_grow hg hcm hcs hc x k (by omega) hnc (by omega) hs vb hv
end Go.Proofs.YtehihecknhcggaaGreat.Sl
namespace Go.Proofs.YtehihecknhcggaaGreat.Word
open Go.RowKit
def getV:List Int→Int
 | []=>0
 |x::xs=>x+256*getV xs
theorem getV_snoc(l:List Int)(y:Int):getV (l++[y])=getV l+y*256 ^ l.length:=by
 induction l with
 |nil=>simp[getV]
 |cons x xs ih=>
  simp only[List.cons_append,getV,ih,List.length_cons,Int.pow_succ];rw[Int.mul_add,Int.add_assoc,Int.mul_left_comm,Int.mul_comm 256 (256 ^ xs.length)]
theorem getV_bd(l:List Int)(h:∀x,x∈l→0≤x∧x<256):0≤getV l∧getV l<256 ^ l.length:=by
 induction l with
 |nil=>simp[getV]
 |cons x xs ih=>
  have h1:=h x (by simp);have h2:=ih fun y hy=>h y (by simp[hy])
  simp only[getV,List.length_cons,Int.pow_succ];omega
theorem or_join(k:Nat)(a y:Int)(hk:k<4)(a0:0≤a)(a1:a<256 ^ k)(y0:0≤y)(y1:y<256):
  bits .or .u32 a (y % 4294967296*2 ^ (8*k) % 4294967296)=a+y*256 ^ k:=by
 have e:y % 4294967296*2 ^ (8*k) % 4294967296=y*2 ^ (8*k):=by
  have:k=0∨k=1∨k=2∨k=3:=by omega
  rcases this with rfl|rfl|rfl|rfl<;>simp<;>omega
 have e2:(256:Int) ^ k=2 ^ (8*k):=by rw[Int.pow_mul];rfl
 rw[e,e2];rw[e2] at a1;obtain⟨a,rfl⟩:=Int.eq_ofNat_of_zero_le a0;obtain⟨y,rfl⟩:=Int.eq_ofNat_of_zero_le y0;have hp:((2:Int) ^ (8*k))=((2 ^ (8*k):Nat):Int):=by simp
 rw[hp] at a1⊢;have a1':a<2 ^ (8*k):=by exact_mod_cast a1
 rw[←Int.natCast_mul,u32_or_nat a (y*2 ^ (8*k))]
 ·have hj:=nat_join (8*k) (y*2 ^ (8*k)) a (Nat.mul_mod_left _ _) a1';rw[Nat.or_comm,hj,←Int.natCast_add,Nat.add_comm]
 ·have:k=0∨k=1∨k=2∨k=3:=by omega
  rcases this with rfl|rfl|rfl|rfl<;>simp at a1'<;>omega
 ·have:k=0∨k=1∨k=2∨k=3:=by omega
  rcases this with rfl|rfl|rfl|rfl<;>simp<;>omega
theorem take_succ_nums(s:ByteArray)(k:Nat)(hk:k<s.size):(nums s).take (k+1)=(nums s).take k++[((s[k]'hk).toNat:Int)]:=by
 have hl:k<(nums s).length:=by rw[nums_length];exact hk
 rw[List.take_succ_eq_append_getElem hl]
 congr 2
 have:=nums_get s k hk;rw[this,List.getD,Zg hl];rfl
theorem get_next(s:ByteArray)(k:Nat)(x:Int)(hk:k<s.size)(h4:s.size≤4)(hx:x=getV ((nums s).take k)):
  bits .or .u32 x (((s[k]'hk).toNat:Int) % 4294967296*2 ^ (8*k) % 4294967296)=getV ((nums s).take (k+1)):=by
 have hb:=getV_bd ((nums s).take k) fun y hy=>nums_bd s y (List.mem_of_mem_take hy)
 have hl:((nums s).take k).length=k:=by rw[List.length_take,nums_length];omega
 rw[hl] at hb;rw[take_succ_nums s k hk,getV_snoc,hl,←hx];rw[←hx] at hb;have hy:=(s[k]'hk).toNat_lt;exact or_join k x _ (by omega) hb.1 hb.2 (by omega) (by omega)
theorem getV_take_bd(s:ByteArray)(k:Nat)(h4:s.size≤4):0≤getV ((nums s).take k)∧getV ((nums s).take k)≤4294967295:=by
 have hb:=getV_bd ((nums s).take k) fun y hy=>nums_bd s y (List.mem_of_mem_take hy)
 have hl:((nums s).take k).length≤4:=by rw[List.length_take,nums_length];omega
 generalize ((nums s).take k).length=n at hb hl;have:n=0∨n=1∨n=2∨n=3∨n=4:=by omega
 rcases this with rfl|rfl|rfl|rfl|rfl<;>simp at hb<;>omega
end Go.Proofs.YtehihecknhcggaaGreat.Word
namespace Go.Proofs.YtehihecknhcggaaGreat.Word
open Go.RowKit
def one(c:Bool):Int:=if c then 1 else 0
def divu(a b:Int):Int:=if b=0 then 4294967295 else a / b
def remu(a b:Int):Int:=if b=0 then a else a % b
theorem divu_ne(a b:Int)(h:¬b=0):divu a b=a / b:=by unfold divu;rw[if_neg h]
theorem remu_ne(a b:Int)(h:¬b=0):remu a b=a % b:=by unfold remu;rw[if_neg h]
def opv(fn a b:Int):Int:=
 match fn with
 |1=>(a+b) % 4294967296
 |2=>(a - b) % 4294967296
 |3=>a*b % 4294967296
 |4=>divu a b
 |5=>remu a b
 |6=>bits .and .u32 a b
 |7=>bits .or .u32 a b
 |8=>bits .xor .u32 a b
 |9=>a*2 ^ (b % 32).toNat % 4294967296
 |10=>a / 2 ^ (b % 32).toNat
 |11=>wrap32 a / 2 ^ (b % 32).toNat % 4294967296
 |12=>one (decide (wrap32 a<wrap32 b))
 |13=>one (decide (a<b))
 |14=>one (a == b)
 |_=>0
def ope(fn:Int):Int:=if 1≤fn∧fn≤14 then 0 else 2
theorem ope_high(fn:Int)(h:15≤fn):ope fn=2:=by unfold ope;rw[if_neg (by omega)]
theorem opv_high(fn a b:Int)(h:15≤fn):opv fn a b=0:=by
 unfold opv
 split<;>first|omega|rfl
end Go.Proofs.YtehihecknhcggaaGreat.Word
namespace Go.Proofs.YtehihecknhcggaaGreat.Word
open Go.RowKit
theorem text(b len cap:Nat)(xs:List Int)(hlen:xs.length=len)(w:World)(hc:∀i,i<len→w.cell? ⟨b,0+i,none⟩=some (.int .u8 (xs.getD i 0))):
  Calls Tryz.prog 364 #[.slice (some ⟨b,0,none⟩) len cap] w fun e w'=>e=.returned (.string (strOfNums xs))∧w=w':=by
 have h:=run_convert_bytes_arg (P:=Tryz.prog) w 85 5 Tryz.underlying85 Tryz.underlying5 b 0 len cap xs hlen hc 9 Tryz.underlying9;clear hc;go_enter func364,ntmps364;go_wp2;go_ret;exact⟨rfl,rfl⟩
def putL(v:Int):List Int:=[v % 256,v / 256 % 256,v / 65536 % 256,v / 16777216]
def putS(v:Int)(n:Nat):ByteArray:=strOfNums ((putL v).take n)
theorem put1_long(v:Int)(h0:0≤v)(h1:v≤4294967295)(hl:(v / 256 != 0)=true)(w:World):
  Calls Tryz.prog 310 #[.int .u32 v,.int .i64 1] w fun e w'=>e=.returned (.tuple #[.string ByteArray.empty,.int .i64 5])∧w=w':=by
 go_enter func310,ntmps310;go_wp2;go_ret2;exact⟨rfl,rfl⟩
theorem put1_ok(v:Int)(h0:0≤v)(h1:v≤4294967295)(hl:(v / 256 != 0)=false)(w:World):
  Calls Tryz.prog 310 #[.int .u32 v,.int .i64 1] w fun e w'=>e=.returned (.tuple #[.string (putS v 1),.int .i64 0])∧Below w.heap.size w w':=by
 have hc:∀i,i<1→(w.alloc (.cells #[.int .u8 (v % 256),.int .u8 (v / 256 % 256),.int .u8 (v / 65536 % 256),.int .u8 (v / 16777216)] 5)).cell? ⟨w.heap.size,0+i,none⟩=some (.int .u8 (((putL v).take 1).getD i 0)):=by
  intro i hi;rw[cells4];have:i=0∨i=1∨i=2∨i=3:=by omega
  rcases this with rfl|rfl|rfl|rfl<;>first|omega|rfl
 have H:=Lh hc;clear hc;go_enter func310,ntmps310;go_wp2_with (go_at_call 364;refine(text _ 1 4 ((putL v).take 1) rfl _ H.out).mono ?_;rintro e w1 ⟨rfl,rfl⟩);go_ret2;exact⟨rfl,by repeat (first|exact Below.refl _ _|apply Below.drew|refine Below.setCell ?_ (by simp) _|refine Below.alloc ?_ (by simp) _)⟩
theorem put2_long(v:Int)(h0:0≤v)(h1:v≤4294967295)(hl:(v / 65536 != 0)=true)(w:World):
  Calls Tryz.prog 310 #[.int .u32 v,.int .i64 2] w fun e w'=>e=.returned (.tuple #[.string ByteArray.empty,.int .i64 5])∧w=w':=by
 go_enter func310,ntmps310;go_wp2;go_ret2;exact⟨rfl,rfl⟩
theorem put2_ok(v:Int)(h0:0≤v)(h1:v≤4294967295)(hl:(v / 65536 != 0)=false)(w:World):
  Calls Tryz.prog 310 #[.int .u32 v,.int .i64 2] w fun e w'=>e=.returned (.tuple #[.string (putS v 2),.int .i64 0])∧Below w.heap.size w w':=by
 have hc:∀i,i<2→(w.alloc (.cells #[.int .u8 (v % 256),.int .u8 (v / 256 % 256),.int .u8 (v / 65536 % 256),.int .u8 (v / 16777216)] 5)).cell? ⟨w.heap.size,0+i,none⟩=some (.int .u8 (((putL v).take 2).getD i 0)):=by
  intro i hi;rw[cells4];have:i=0∨i=1∨i=2∨i=3:=by omega
  rcases this with rfl|rfl|rfl|rfl<;>first|omega|rfl
 have H:=Lh hc;clear hc;go_enter func310,ntmps310;go_wp2_with (go_at_call 364;refine(text _ 2 4 ((putL v).take 2) rfl _ H.out).mono ?_;rintro e w1 ⟨rfl,rfl⟩);go_ret2;exact⟨rfl,by repeat (first|exact Below.refl _ _|apply Below.drew|refine Below.setCell ?_ (by simp) _|refine Below.alloc ?_ (by simp) _)⟩
theorem put4_ok(v:Int)(h0:0≤v)(h1:v≤4294967295)(w:World):
  Calls Tryz.prog 310 #[.int .u32 v,.int .i64 4] w fun e w'=>e=.returned (.tuple #[.string (putS v 4),.int .i64 0])∧Below w.heap.size w w':=by
 have hc:∀i,i<4→(w.alloc (.cells #[.int .u8 (v % 256),.int .u8 (v / 256 % 256),.int .u8 (v / 65536 % 256),.int .u8 (v / 16777216)] 5)).cell? ⟨w.heap.size,0+i,none⟩=some (.int .u8 (((putL v).take 4).getD i 0)):=by
  intro i hi;rw[cells4];have:i=0∨i=1∨i=2∨i=3:=by omega
  rcases this with rfl|rfl|rfl|rfl<;>first|omega|rfl
 have H:=Lh hc;clear hc;go_enter func310,ntmps310;go_wp2_with (go_at_call 364;refine(text _ 4 4 ((putL v).take 4) rfl _ H.out).mono ?_;rintro e w1 ⟨rfl,rfl⟩);go_ret2;exact⟨rfl,by repeat (first|exact Below.refl _ _|apply Below.drew|refine Below.setCell ?_ (by simp) _|refine Below.alloc ?_ (by simp) _)⟩
end Go.Proofs.YtehihecknhcggaaGreat.Word
namespace Go.Proofs.YtehihecknhcggaaGreat
open Go.RowKit Word
structure Ins where
 op:Int
 d:Int
 a:Int
 b:Int
 imm:Int
namespace Ins
structure ok(x:Ins):Prop where
 o0:0≤x.op
 o1:x.op≤255
 d0:0≤x.d
 d1:x.d≤255
 a0:0≤x.a
 a1:x.a≤255
 b0:0≤x.b
 b1:x.b≤255
 i0:0≤x.imm
 i1:x.imm≤4294967295
def val(x:Ins):Value:=.agg #[.int .u8 x.op,.int .u8 x.d,.int .u8 x.a,.int .u8 x.b,.int .u32 x.imm]
def nix:Ins:=⟨0,0,0,0,0⟩
def usesV(op:Int):Int:=
 if 1≤op∧op≤14 then 7
 else if op=17∨op=19∨op=22∨op=23∨op=24∨op=25∨op=26∨op=29∨op=30∨op=33∨op=34 then 11
 else if op=32∨op=41 then 9
 else if op=35∨op=36∨op=43∨op=44∨op=45∨op=46 then 14
 else if op=40∨op=50 then 8
 else if op=42 then 2
 else 0
theorem usesV_bd(op:Int):0≤usesV op∧usesV op≤255:=by
 unfold usesV
 repeat' split
 all_goals exact⟨by omega,by omega⟩
def hasV(op bit:Int):Bool:=bits .and .u8 (usesV op) bit != 0
def fitV(n:Int)(uses:Bool):Bool:=n == 0||(uses&&decide (n<16))
def mayV(x:Ins):Bool:=usesV x.op != 0&&fitV x.d (hasV x.op 1)&&fitV x.a (hasV x.op 2)&&fitV x.b (hasV x.op 4)&&(hasV x.op 8||x.imm == 0)
theorem fit_lt{n:Int}{u:Bool}(h:fitV n u=true)(h0:0≤n):n<16:=by
 unfold fitV at h;simp only[Bool.or_eq_true,Bool.and_eq_true,decide_eq_true_eq,beq_iff_eq] at h;omega
structure small(x:Ins):Prop where
 d0:0≤x.d
 d1:x.d<16
 a0:0≤x.a
 a1:x.a<16
 b0:0≤x.b
 b1:x.b<16
theorem may_small{x:Ins}(h:mayV x=true)(hx:x.ok):x.small:=by
 unfold mayV at h;simp only[Bool.and_eq_true] at h;exact⟨hx.d0,fit_lt h.1.1.1.2 hx.d0,hx.a0,fit_lt h.1.1.2 hx.a0,hx.b0,fit_lt h.1.2 hx.b0⟩
theorem may_op{x:Ins}(h:mayV x=true):usesV x.op≠0:=by
 unfold mayV at h;simp only[Bool.and_eq_true] at h
 simpa using h.1.1.1.1
def encL(x:Ins):List Int:=[x.op,x.d+16*x.a,x.b,0]++putL x.imm
def encE(x:Ins):Int:=if mayV x then 0 else 2
def encS(x:Ins):ByteArray:=if mayV x then strOfNums (encL x) else ByteArray.empty
def decI(s:ByteArray):Ins:=⟨(nums s).getD 0 0,(nums s).getD 1 0 % 16,(nums s).getD 1 0 / 16,(nums s).getD 2 0,getV ((nums s).drop 4)⟩
def decB(s:ByteArray):Bool:=s.size == 8&&(nums s).getD 3 0 == 0&&mayV (decI s)
def decE(s:ByteArray):Int:=if decB s then 0 else 7
def decX(s:ByteArray):Ins:=if decB s then decI s else nix
theorem eight{s:ByteArray}(h:s.size=8):∃a b c d e f g k:Int,nums s=[a,b,c,d,e,f,g,k]∧(0≤a∧a<256)∧(0≤b∧b<256)∧(0≤c∧c<256)∧(0≤d∧d<256)∧(0≤e∧e<256)∧(0≤f∧f<256)∧(0≤g∧g<256)∧(0≤k∧k<256):=by
 have hl:(nums s).length=8:=by rw[nums_length,h]
 have hb:=nums_bd s
 match hn:nums s,hl with
 | [a,b,c,d,e,f,g,k],_=>
  rw[hn] at hb;exact⟨a,b,c,d,e,f,g,k,rfl,hb a (by simp),hb b (by simp),hb c (by simp),hb d (by simp),hb e (by simp),hb f (by simp),hb g (by simp),hb k (by simp)⟩
theorem decI_ok{s:ByteArray}(h:s.size=8):(decI s).ok:=by
 obtain⟨a,b,c,d,e,f,g,k,hn,ha,hb,hc,hd,he,hf,hg,hk⟩:=eight h;unfold decI;rw[hn];simp only[List.getD,List.getElem?_cons_zero,List.getElem?_cons_succ,Option.getD_some,List.drop_succ_cons,List.drop_zero,getV]
 constructor<;>simp only<;>omega
theorem decB_size{s:ByteArray}(h:decB s=true):s.size=8:=by
 unfold decB at h;simp only[Bool.and_eq_true,beq_iff_eq] at h;exact h.1.1
theorem decB_may{s:ByteArray}(h:decB s=true):mayV (decI s)=true:=by
 unfold decB at h;simp only[Bool.and_eq_true] at h;exact h.2
theorem encL_len(x:Ins):(encL x).length=8:=rfl
end Ins
open Go.RowKit
theorem fold_set(off:Nat):∀(L:List Value) (k:Nat) (Z:Array Value),off+k+L.length≤Z.size→((L.zipIdx k).foldl (fun(cs:Array Value) (x:Value×Nat)=>cs.setIfInBounds (off+x.2) x.1) Z).size=Z.size∧
  ∀i,((L.zipIdx k).foldl (fun(cs:Array Value) (x:Value×Nat)=>cs.setIfInBounds (off+x.2) x.1) Z)[i]? =if off+k≤i∧i<off+k+L.length then L[i - (off+k)]? else Z[i]?
 | [],k,Z,_=>⟨rfl,fun i=>by rw[if_neg (by rw[List.length_nil];omega)];rfl⟩
 |x::L,k,Z,h=>by
  obtain⟨h1,h2⟩:=fold_set off L (k+1) (Z.setIfInBounds (off+k) x) (by simp at h⊢;omega);rw[List.zipIdx_cons,List.foldl_cons];refine⟨by rw[h1];simp,fun i=> ?_⟩;rw[h2 i];simp only[List.length_cons] at h⊢
  by_cases e:i=off+k
  ·subst e;rw[if_neg (by omega),if_pos (by omega),Nat.sub_self,Array.getElem?_setIfInBounds,if_pos rfl,if_pos (by omega)];rfl
  ·by_cases g:off+k≤i∧i<off+k+(L.length+1)
   ·rw[if_pos (by omega),if_pos g,show i - (off+k)=(i - (off+(k+1)))+1 by omega];rfl
   ·rw[if_neg (by omega),if_neg g,Array.getElem?_setIfInBounds,if_neg (by omega)]
theorem fold_page(Z:Array Value)(hZ:Z.size=257)(a:Int)(bs:List Value)(hb:bs.length=256):
  List.foldl (fun(cs:Array Value) (x:Value×Nat)=>cs.setIfInBounds (1+x.snd) x.fst) (Z.setIfInBounds 0 (.int .u8 a)) bs.zipIdx=(Value.int .u8 a::bs).toArray:=by
 obtain⟨g1,g2⟩:=fold_set 1 bs 0 (Z.setIfInBounds 0 (.int .u8 a)) (by simp[hZ,hb])
 apply Array.ext_getElem?
 intro i;rw[g2 i];cases i with
 |zero=>simp[hZ]
 |succ i=>
  by_cases g:1+0≤i+1∧i+1<1+0+bs.length
  ·rw[if_pos g];simp
  ·rw[if_neg g];rw[Array.getElem?_eq_none (by simp;omega),Array.getElem?_eq_none (by simp;omega)]
theorem zeroPageSize:Tryz.zeroCells344.size=257:=by kernel_rfl
def Pg.core(p:Pg):Int×Int×List Int:=(p.addr,p.perm,p.bytes)
def cores(A:List Pg):List (Int×Int×List Int):=A.map Pg.core
theorem Spc.insertPg{w:World}{sb mb:Nat}{A:List Pg}(h:Spc w sb mb A)(p:Pg)(hp:p.ok)(hn:atAddr A p.addr=none)(hblk:w.heap[p.blk]? =some (.cells p.cells 344 (0,0)))(hfresh:¬Spc.foot sb mb A p.blk):
  ∃w',(Instr.mapUpdate 336 (.map (some mb)) (.int .u32 p.addr) (.pointer (some ⟨p.blk,0,none⟩))).run Tryz.prog w=.ok () w'∧Spc w' sb mb (insPg p A)∧w.grownBy w' (some mb):=by
 obtain⟨D,n,ho,hv,hs⟩:=h.map;have ht:=own_tight ho;have hl:=h.len;have K:=Maps.int_keyed (P:=Tryz.prog) Tryz.underlying41;have h0:=hp.a0;have h1:=hp.a1;have hk:=Maps.keyOf_int_mk (P:=Tryz.prog) Tryz.underlying41 (wf_u32 h0 (by omega:p.addr≤4294967295));obtain⟨w',hrun,how,htu⟩:=ht.store K Tryz.underlying336 (by rw[hs];unfold maxLen;omega) (val:=.pointer (some ⟨p.blk,0,none⟩)) (d:=.lit (.int .i64 p.blk)) (ps:=[]) hk rfl;have hg:=htu.grown;have hne:∀k,k<w.heap.size→k≠mb→w'.heap[k]? =w.heap[k]? :=fun k hk hkm=>hg.block k hk (by simpa using hkm)
 refine⟨w',hrun,⟨?_, ?_, ?_, ?_, ?_, ?_⟩,hg⟩
 ·exact(hne sb (h.lt (.inl rfl)) h.ne_hm).trans h.head
 ·refine⟨_,_,how,fun x zd=> ?_, ?_⟩
  ·rw[atAddr_ins h.up hn]
   by_cases e:x=p.addr
   ·subst e;rw[if_pos rfl,Maps.atKey_put_same ht.isMap (K.key hk)]
   ·rw[if_neg e,Maps.atKey_put_other (by intro g;simp at g;exact e g),hv]
  ·rw[Maps.size_put (ht.tidy K),length_insPg,hs];have:Maps.has D (.int .u32 p.addr)=false:=Maps.has_false_of_atKey fun z=>by rw[hv,hn]
   rw[this];rfl
 ·intro q hq;rcases mem_insPg.1 hq with rfl|hq'
  ·exact(hne _ (lQ hblk) (fun e=>hfresh (.inr (.inl e)))).trans hblk
  ·exact(hne q.blk (lQ (h.page q hq')) (h.ne_map hq').symm).trans (h.page q hq')
 ·intro q hq;rcases mem_insPg.1 hq with rfl|hq'
  ·exact hp
  ·exact h.ok q hq'
 ·exact up_insPg h.up (atAddr_none hn)
 ·exact pw_insPg h.blks fun q hq e=>hfresh (.inr (.inr ⟨q,hq,e.symm⟩))
theorem cores_eq{A:List Pg}(h:A.Pairwise fun p q=>p.addr<q.addr):cores A=(A.map (·.addr)).map fun a=>((atAddr A a).map Pg.core).getD (0,0,[]):=by
 unfold cores;rw[List.map_map];refine List.map_congr_left fun p hp=> ?_
 show Pg.core p=((atAddr A p.addr).map Pg.core).getD _
 rw[atAddr_eq_some h hp];rfl
theorem rising_unique:∀ {l l':List Int},l.Pairwise (fun x y=>x<y)→l'.Pairwise (fun x y=>x<y)→(∀x,x∈l↔x∈l')→l=l':=by
 intro l l' h1 h2 h;refine List.Perm.eq_of_pairwise (le:=fun a b=>a<b) (fun a b _ _ g1 g2=>absurd g1 (by omega)) h1 h2 ((List.perm_ext_iff_of_nodup (h1.imp fun g=>by omega) (h2.imp fun g=>by omega)).2 h)
theorem cores_ext{A C:List Pg}(hA:A.Pairwise fun p q=>p.addr<q.addr)(hC:C.Pairwise fun p q=>p.addr<q.addr)(h:∀x,(atAddr C x).map Pg.core=(atAddr A x).map Pg.core):cores C=cores A:=by
 have hm:∀(B:List Pg) x,x∈B.map (·.addr)↔(atAddr B x).isSome=true:=by
  intro B x
  constructor
  ·intro g;cases hx:atAddr B x with
   |some p=>rfl
   |none=>
    obtain⟨p,hp,e⟩:=List.mem_map.1 g;exact absurd e (atAddr_none hx p hp)
  ·intro g;obtain⟨p,hp⟩:=Option.isSome_iff_exists.1 g;exact List.mem_map.2 ⟨p,(atAddr_mem hp).1,(atAddr_mem hp).2⟩
 have hadd:C.map (·.addr)=A.map (·.addr):=by
  refine rising_unique (List.pairwise_map.2 hC) (List.pairwise_map.2 hA) fun x=> ?_
  rw[hm,hm];have:=congrArg Option.isSome (h x)
  simpa using Iff.of_eq (congrArg (·=true) this)
 rw[cores_eq hA,cores_eq hC,hadd];exact List.map_congr_left fun a _=>by rw[h]
namespace Sp
def cpRel(w:World)(sb mb:Nat)(A:List Pg)(D:DataW Unit)(n sb' mb' r:Nat)(wr:World):Prop:=
 ∃(left:Lit→Bool) (cnt:Nat) (C:List Pg),wr.ranges Tryz.prog 41 ptrElem mb r n D left cnt∧Spc wr sb mb A∧Spc wr sb' mb' C∧(∀k,Spc.foot sb' mb' C k→w.heap.size≤k)∧r≠sb'∧r≠mb'∧(∀p,p∈C→p.blk≠r)∧w.heap.size≤r∧Below w.heap.size w wr∧
  ∀x,(atAddr C x).map Pg.core=if left (.int .u32 x) then none else(atAddr A x).map Pg.core
def CopyPost(w:World)(A:List Pg)(e:Ending)(w':World):Prop:=
 ∃(sb' mb':Nat) (C:List Pg),e=.returned (.pointer (some ⟨sb',0,none⟩))∧Spc w' sb' mb' C∧cores C=cores A∧(∀k,Spc.foot sb' mb' C k→w.heap.size≤k)∧Below w.heap.size w w'
theorem copy{w:World}{sb mb:Nat}{A:List Pg}(h:Spc w sb mb A):Calls Tryz.prog 197 #[.pointer (some ⟨sb,0,none⟩)] w (CopyPost w A):=by
 have K:=Maps.int_keyed (P:=Tryz.prog) Tryz.underlying41;obtain⟨D,n,ho,hv,hs⟩:=h.map;have Hv:=Lh hv;have H:=Lh h;have hfl:∀k,Spc.foot sb mb A k→k<w.heap.size:=fun k hk=>h.lt hk
 have Hfl:=Lh hfl;have Ho:=Lh ho;clear h hv hs hfl ho;go_enter func197,ntmps197;go_wp2_with fail;refine(new _).mono ?_;rintro e w1 ⟨rfl,h1,hb1,hz1⟩;have hs1:=H.out.below hb1 Hfl.out;have hc:=hs1.cellHead;have ho1:w1.ownsMap Tryz.prog 41 ptrElem mb n D:=own_of_block Ho.out (hb1.block mb (Hfl.out mb (.inr (.inl rfl))));have Ho1:=Lh ho1;have H1:=Lh h1;have Hs1:=Lh hs1;have Hb1:=Lh hb1;have Hz1:=Lh hz1;clear hs1 h1 hb1 ho1 hz1;obtain⟨sb',hsb'⟩:∃s,w.heap.size+1=s:=⟨_,rfl⟩;obtain⟨mb',hmb'⟩:∃s,w.heap.size=s:=⟨_,rfl⟩;have Hsb:=Lh hsb';have Hmb:=Lh hmb';rw[hsb'] at H1⊢;rw[hmb'] at H1;clear hsb' hmb';go_wp2_with (at_range;refine wpList_range_own _ rfl _ 336 rfl 41 340 K Tryz.underlying336 ptrElem mb n D rfl Ho1.out ?_;intro w2 hrg hg2 hz2);obtain⟨r,hr⟩:∃r,w1.heap.size=r:=⟨_,rfl⟩;rw[hr] at hrg⊢;have Hr:=Lh hr;have h2:cpRel w sb mb A D n sb' mb' r w2:=by
  have hz:=Hz1.out;have e1:=Hsb.out;have e2:=Hmb.out;have hb2:Below w.heap.size w w2:=Hb1.out.grown hg2 Hb1.out.size (fun k e=>by cases e);refine⟨_,_,[],hrg,H.out.below hb2 Hfl.out,H1.out.frame fun k hk=>hg2.block k ?_ (by simp),fun k hk=> ?_,by omega,by omega,fun p hp=>by simp at hp,by omega,hb2,fun x=> ?_⟩
  ·exact H1.out.lt hk
  ·rcases hk with rfl|rfl|⟨p,hp,_⟩
   ·omega
   ·omega
   ·simp at hp
  ·have:Maps.has D (.int .u32 x)=(atAddr A x).isSome:=by
    cases hx:atAddr A x with
    |some p=>exact Maps.has_true_of_atKey (y:=.lit (.int .i64 p.blk)) fun zd=>by rw[Hv.out,hx]
    |none=>exact Maps.has_false_of_atKey fun z=>by rw[Hv.out,hx]
   rw[this];cases atAddr A x<;>rfl
 have H2:=Lh h2;clear hr hrg hg2 hz2 h2 hc;go_frame;go_loopw [4,5] (fun _ _ wr=>cpRel w sb mb A D n sb' mb' r wr) (fun _ _ wr=>wr.rangeLeft mb r)
 case atStart=>exact H2.out
 case round=>
  clear H2 Hs1 H1 Ho1 Hb1 Hz1 Ho Hr;clear w2 w1;obtain⟨left,cnt,C,hrg,hsA,hsC,hft,hr1,hr2,hr4,hr3,hbw,hat⟩:=hrel;have Hrg:=Lh hrg;have HA:=Lh hsA;have HC:=Lh hsC;have Hft:=Lh hft;have Hr3:=Lh hr3;have Hbw:=Lh hbw;have Hat:=Lh hat
  clear hrg hsA hsC hft hr3 hbw hat
  go_wp2_with (at_next;refine wpList_next_ranges _ rfl _ rfl 41 K ptrElem (Value.int .u32) id (fun key kl hk=>by obtain⟨x,hx,_⟩:=Maps.keyOf_int_inv Tryz.underlying41 hk;exact⟨x,hx⟩) (fun v _ _=>⟨v,rfl⟩) mb r n D left cnt rfl Hrg.out ?_ ?_)
  ·intro hc0 hl0;go_wp2;go_ret;exact⟨sb',mb',C,rfl,HC.out,cores_ext H.out.up HC.out.up fun x=>by rw[Hat.out,hl0];rfl,Hft.out,Hbw.out⟩
  ·intro x c kl y1 y2 w3 cnt2 hkey hlk hR hat3 hrg3 hlt hg3 hs3 hen;obtain⟨x',ex,rfl,hwx⟩:=Pag.keyOf_u32 Tryz.underlying41 hkey;obtain rfl:x=x':=by simpa [Pag.encU] using ex
   obtain⟨p,hp,hy⟩:∃p,atAddr A x=some p∧y1=.lit (.int .i64 p.blk):=by
    cases hx:atAddr A x with
    |some p=>exact⟨p,rfl,by rw[←hat3 y1,Hv.out,hx]⟩
    |none=>
     have g1:=hat3 (.lit (.int .i64 0));have g2:=hat3 (.lit (.int .i64 1));rw[Hv.out,hx] at g1 g2;rw[←g1] at g2;simp at g2
   subst hy;obtain rfl:c=.pointer (some ⟨p.blk,0,none⟩):=by
    rcases ptrElem_inv hR with⟨_,hb⟩|⟨b,e,hb⟩
    ·omega
    ·have:b=p.blk:=by omega
     subst this;exact e
   have hpm:=atAddr_mem hp;obtain⟨hpm,rfl⟩:=hpm;have hw3b:Below w.heap.size w w3:=Hbw.out.grown hg3 Hbw.out.size (fun k e=>by cases e;exact Hr3.out);have hA3:Spc w3 sb mb A:=H.out.below hw3b Hfl.out;have hC3:Spc w3 sb' mb' C:=HC.out.frame fun k hk=>hg3.block k (HC.out.lt hk) (by
    rintro e;cases e;rcases hk with g|g|⟨q,hq,g⟩
    ·exact hr1 g
    ·exact hr2 g
    ·exact hr4 q hq g.symm)
   have hcn:atAddr C p.addr=none:=by
    have:=Hat.out p.addr;rw[if_pos hlk] at this
    simpa using this
   have hpo:=hA3.ok p hpm;have hpg:=hA3.page p hpm
   -- the new page
   obtain⟨q,hq⟩:∃q:Pg,q= {p with blk:=w3.heap.size}:=⟨_,rfl⟩;have hq1:q.addr=p.addr:=by rw[hq]
   have hq2:q.blk=w3.heap.size:=by rw[hq]
   have hqc:q.cells=p.cells:=by rw[hq];rfl
   have hqo:q.ok:=by rw[hq];exact⟨hpo.a0,hpo.a1,hpo.a2,hpo.p0,hpo.p1,hpo.len,hpo.bd⟩
   have hC4:Spc (w3.alloc (.cells q.cells 344)).drew sb' mb' C:=hC3.frame fun k hk=>by
    have:=hC3.lt hk;exact Below.heap_alloc _ _ _ this
   have hbq:(w3.alloc (.cells q.cells 344)).drew.heap[q.blk]? =some (.cells q.cells 344 (0,0)):=by rw[hq2];exact heap_alloc_new w3 _
   obtain⟨w5,hrun,hC5,hg5⟩:=hC4.insertPg q hqo (by rw[hq1];exact hcn) hbq (fun g=>by have:=hC3.lt g;omega);rw[hq1,hq2,hqc] at hrun;rw[show p.cells=_ from(fold_page _ zeroPageSize p.perm (p.bytes.map (Value.int .u8)) (by rw[List.length_map,hpo.len])).symm] at hrun;have hch:=hC3.cellHead;have hcp:=hA3.cellPerm hpm;have hra:w3.rangeAt p.blk 1 (p.bytes.map (Value.int .u8)):=fun j v hj=>by
    have hj':j<256:=by have g1:=(List.getElem?_eq_some_iff.1 hj).1;have g2:=hpo.len;rw[List.length_map] at g1;omega
    rw[hA3.cellByte hpm j hj',←hj];have hl:=hpo.len;simp[List.getD,Zg (show j<p.bytes.length by omega)]
   have hund:=Tryz.underlying342;have hplen:=hpo.len;have hinf:(Tryz.prog.info? 342).map (·.size)=some (p.bytes.map (Value.int .u8)).length:=by rw[List.length_map,hpo.len];kernel_rfl
   have hmbl:=Hfl.out mb (.inr (.inl rfl));have hmb2:=Hft.out mb' (.inr (.inl rfl));have hrl:=hrg3.lt;have hg4:w3.grownBy (w3.alloc (.cells q.cells 344)).drew none:=by
    have g:=World.grownBy_alloc w3 (.cells q.cells 344) none;exact⟨g.os,g.tape,g.output,g.size,g.block⟩
   have hrg5:w5.ranges Tryz.prog 41 ptrElem mb r n D (fun z=>left z&& !z.sameKey (.int .u32 p.addr)) cnt2:=
    (hrg3.kept hg4 (by simp) (by simp)).kept hg5 (by intro e;cases e;omega) (by intro e;cases e;exact hr2 rfl)
   have hw5b:Below w.heap.size w w5:=(hw3b.grown hg4 hw3b.size (fun k e=>by cases e)).grown hg5 (by have:=hw3b.size;simp;omega) (fun k e=>by cases e;exact hmb2);have hA5:Spc w5 sb mb A:=H.out.below hw5b Hfl.out;have hch5:=hC5.cellHead;have hcp5:=hA5.cellPerm hpm;have hra5:w5.rangeAt p.blk 1 (p.bytes.map (Value.int .u8)):=fun j v hj=>by
    have hj':j<256:=by have g1:=(List.getElem?_eq_some_iff.1 hj).1;have g2:=hpo.len;rw[List.length_map] at g1;omega
    rw[hA5.cellByte hpm j hj',←hj];have hl:=hpo.len;simp[List.getD,Zg (show j<p.bytes.length by omega)]
   have fin:cpRel w sb mb A D n sb' mb' r w5:=by
    refine⟨_,cnt2,insPg q C,hrg5,hA5,hC5,fun k hk=> ?_,hr1,hr2,fun g hg=> ?_,Hr3.out,hw5b,fun x=> ?_⟩
    ·rcases foot_insPg.1 hk with g|g
     ·rw[g,hq2];exact hw3b.size
     ·exact Hft.out k g
    ·rcases mem_insPg.1 hg with rfl|g2
     ·rw[hq2];omega
     ·exact hr4 g g2
    ·rw[atAddr_ins hC3.up (by rw[hq1];exact hcn),hq1]
     by_cases e:x=p.addr
     ·subst e;rw[if_pos rfl,hp];simp[Lit.sameKey,hq,Pg.core]
     ·rw[if_neg e,Hat.out x];simp[Lit.sameKey,e]
   have Fin:=Lh fin;have Hrg5:=Lh hrg5;have Hlt:=Lh hlt;have Hrgl:=Lh Hrg.out.left_eq;have hsl:=Lh (hC3.lt (.inl rfl));have hpl:=Lh (hA3.lt (.inr (.inr ⟨p,hpm,rfl⟩)));clear hmbl hmb2 hrl hg4 hw5b hA5;clear fin hrg5 hlt hrg3 hg3 hs3 hA3 hC3 hcn hpo hpg hq hqo hC4 hbq hC5 hg5 hw3b hat3 hp hwx ex hR hlk hkey hpm Hat hqc hq1 hq2 hr1 hr2 hr4;go_wp2;go_region_held3 (fun w'=>w'.cell? ⟨sb',0,none⟩=some (.map (some mb'))∧w'.cell? ⟨p.blk,0,none⟩=some (.int .u8 p.perm)∧w'.rangeAt p.blk 1 (p.bytes.map (Value.int .u8)))
    (first
     |exact⟨hch,hcp,hra⟩
     |exact⟨hch5,hcp5,hra5⟩
     |exact⟨(World.cell?_of_block (w:=w3) (Below.heap_alloc _ _ _ hsl.out)).trans hch,(World.cell?_of_block (w:=w3) (Below.heap_alloc _ _ _ hpl.out)).trans hcp,World.rangeAt_alloc hra _⟩)
    (first|fail)
   all_goals
    go_wp2;exact⟨Fin.out,by rw[Hrg5.out.left_eq,Hrgl.out];exact Hlt.out⟩
end Sp
end Go.Proofs.YtehihecknhcggaaGreat
