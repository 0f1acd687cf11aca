/- Pag, RspE, SpcY, Cor, Pair, KeepsP, WordNum, WordSpec, WordPut, Ins, ExeW, Cpu, WordFns, WordOp, WordGetA in one text. -/
import Derived.RangeFuncBox
import Derived.RangeFuncLeaves
import Derived.RangeFuncBound
import Derived.Shelf.Abstract
import Derived.OwnWalkIn
import Derived.TacticsInMore
import Derived.RegionIn
import Derived.LoopNIn
import Derived.LoopIn
import Derived.Maps.AppendAt
import Derived.Sort.MapsRangeIn
import Derived.Test.YtnpicaigdfnmfaaGreatPnSrt
import Derived.Test.YtnpicaigdfnmfaaGreatPnBase
import Derived.Test.YtnpicaigdfnmfaaGreatPnRspW
import Derived.Maps.RangeWalk
import Derived.Deep.RegionHeld3
import Derived.Deep.MidRow
import Derived.Test.YtnpicaigdfnmfaaGreatProg
import Derived.Lib.Hide
import Derived.Laws.BytesArg
import Derived.WalkSpells
import Derived.WalkLawsBesides
import Derived.Laws.EntriesVeiled
import Derived.LoopTactic
import Derived.Test.YtnpicaigdfnmfaaGreatPnZa
set_option linter.unusedVariables false
set_option linter.unusedSimpArgs false
set_option maxRecDepth 100000
set_option maxHeartbeats 16000000
open Go.Proofs.Tryz
namespace Go.Proofs.YtnpicaigdfnmfaaGreat.Pag
open Go.RowKit Go.Maps Go.Shelf
attribute [local go_sem] Oper.semAt_some
abbrev encU:Int→Value:=Value.int .u32
theorem encU_inj{x y:Int}(h:encU x=encU y):x=y:=by simpa [encU] using h
theorem keyOf_u32{P:Program}{k:TypeId}(hk:P.underlying k=some (.int .u32)){key:Value}{kl:Lit}(h:keyOf P k key=some kl):∃x:Int,key=encU x∧kl=.int .u32 x∧(Lit.int .u32 x).wf=true:=by
 cases key<;>simp[keyOf,hk,mapKey] at h
 rename_i q a
 obtain⟨⟨rfl,hw⟩,rfl⟩:=h;exact⟨a,rfl,rfl,hw⟩
def Come{H:Type}(D0:DataW H)(left:Lit→Bool)(ss:List Int):Prop:=ss.Nodup∧∀x,x∈ss↔(has D0 (.int .u32 x)=true∧left (.int .u32 x)=false)
section
variable {H:Type} {D0:DataW H} {left:Lit→Bool} {ss:List Int}
theorem Come.start(D0:DataW H):Come D0 (has D0) []:=⟨List.nodup_nil,fun x=>by cases has D0 (.int .u32 x)<;>simp⟩
theorem Come.step(h:Come D0 left ss){x:Int}{y:DataW H}(hlk:left (.int .u32 x)=true)(hat:∀zd,D0.atKey (.int .u32 x) zd=y):Come D0 (fun z=>left z&& !z.sameKey (.int .u32 x)) (ss++[x]):=by
 have hhas:has D0 (.int .u32 x)=true:=has_true_of_atKey hat
 have hnew:x∉ss:=by
  intro hx;have:=((h.2 x).1 hx).2;rw[hlk] at this;cases this
 refine⟨List.nodup_append.2 ⟨h.1,by simp, ?_⟩,fun y=> ?_⟩
 ·intro a ha b hb e;simp at hb;subst hb;exact hnew (e▸ha)
 ·by_cases hy:y=x
  ·subst hy;simp[hhas,Lit.sameKey]
  ·simp[h.2 y,hy,Lit.sameKey]
end
theorem keys1{H:Type}(n:Nat)(hn:1≤n)(l Bm b nn:Nat)(D0:DataW H){R:Value→Option (DataW H×List MemPlace)}(J Jx:List Int→World→Prop)
  (hY:∀pre x W,J pre W→pre.length<Maps.size D0→YieldAt Fence.wide (n - 1) Tryz.prog l #[encU x] W fun e W'=>(e=.returned (.bool true)∧J (pre++[x]) W'∧KeepsWalks W W')∨(e=.returned (.bool false)∧Jx (pre++[x]) W'))
  (W:World) (hJ:AbidesFrom W.heap.size J) (hm:W.cell? ⟨Bm,0,none⟩=some (.map (some b))) (hown:W.ownsMap Tryz.prog 42 R b nn D0) (h0:J [] W):
  CallsIn Fence.wide n Tryz.prog 251 #[.func (.yield l) #[] #[],.pointer (some ⟨Bm,0,none⟩)] W fun e W'=>(∃v,e=.returned v)∧
   ((∃ss:List Int,(ss.Nodup∧∀x,x∈ss↔has D0 (.int .u32 x)=true)∧J ss W')∨(∃pre:List Int,pre.Nodup∧Jx pre W')):=by
 have hK:=int_keyed (P:=Tryz.prog) Tryz.underlying42;refine callsIn_of_wp func251 rfl trivial ?_ rfl;simp only[ntmps251,List.size_toArray,List.length_cons,List.length_nil,Nat.reduceAdd,Nat.reduceSub,Array.replicate_succ,Array.replicate_zero,List.push_toArray,List.append_toArray,List.nil_append,List.cons_append]
 gi_wp2_with (first
  |(gi_at_range;refine wpListIn_range_own _ rfl _ 272 rfl 42 237 hK Tryz.underlying272 _ b nn _ rfl hown ?_;intro w0 hrg0 hg0 hs0)
  |gi_in)
 go_frame
 gi_loopw [3] (fun _ wr=>∃(left:Lit→Bool) (cnt:Nat) (ss:List Int),wr.ranges Tryz.prog 42 R b W.heap.size nn D0 left cnt∧ss.length+cnt≤Maps.size D0∧Come D0 left ss∧J ss wr)
  (fun _ wr=>wr.rangeLeft b W.heap.size)
 case atStart=>exact⟨_,_,[],hrg0,by simp,Come.start D0,hJ [] W w0 none h0 hg0 (fun r e=>by cases e)⟩
 case round=>
  obtain⟨left,cnt,ss,hrg,hcs,hC,hJs⟩:=hrel
  gi_wp2_with (first
   |(gi_at_next;refine wpListIn_next_ranges _ rfl _ rfl 42 hK R encU id (fun key kl hk=>by obtain⟨x,hx,_⟩:=keyOf_u32 Tryz.underlying42 hk;exact⟨x,hx⟩) (fun v _ _=>⟨v,rfl⟩) b W.heap.size nn _ _ _ rfl hrg ?_ ?_)
   |gi_in)
  ·intro hc0 hl0
   gi_wp2
   go_end0;exact⟨⟨_,rfl⟩,.inl ⟨ss,⟨hC.1,fun x=>by rw[hC.2 x,hl0];simp⟩,hJs⟩⟩
  ·intro x c kl yd yp w2 cnt2 hkey hlk hv hat hrg2 hlt hg2 hs2 hen;obtain⟨x',ex,rfl,_⟩:=keyOf_u32 Tryz.underlying42 hkey;obtain rfl:x=x':=encU_inj ex;have hJ2:J ss w2:=hJ ss wr w2 (some W.heap.size) hJs hg2 (fun r e=>by cases e;exact⟨Nat.le_refl _,hrg.iter_walk⟩);obtain⟨fn,tmps,assign,body,hy,hR⟩:=hY ss x w2 hJ2 (by omega);clear hs2
   gi_wp2
   refine hR.mono ?_;have hC2:=hC.step hlk hat
   rintro e W3 (⟨rfl,hJ3,hk3⟩|⟨rfl,hJx3⟩)
   ·gi_wp2
    have hrg3:=hrg2.of_walks hk3;go_roundw
    case rel=>exact⟨_,cnt2,ss++[x],hrg3,by simp;omega,hC2,hJ3⟩
    case measure=>rw[hrg3.left_eq,hrg.left_eq];exact hlt
   ·gi_wp2
    refine bodyPost_ret (results_none rfl _ _ _) rfl ?_;exact⟨⟨_,rfl⟩,.inr ⟨ss++[x],hC2.1,hJx3⟩⟩
theorem keys_stops{H:Type}(n:Nat)(hn:1≤n)(Bm b nn:Nat)(D0:DataW H){R:Value→Option (DataW H×List MemPlace)}(w:World)(hBm:Bm<w.heap.size)(hm:w.cell? ⟨Bm,0,none⟩=some (.map (some b)))(hown:w.ownsMap Tryz.prog 42 R b nn D0):
  SeqStopsK Fence.wide n Tryz.prog 251 #[.pointer (some ⟨Bm,0,none⟩)] (fun x:Int=> #[encU x]) KeepsWalks (fun ss=>ss.Nodup∧∀x,x∈ss↔has D0 (.int .u32 x)=true) (fun pre=>pre.Nodup) (Maps.size D0) w:=fun l J Jx W hW hJ _ hY h0=>by
 have hown':W.ownsMap Tryz.prog 42 R b nn D0:=by
  have hbl:=hown.lt;obtain⟨es,clock,hb,rest⟩:=hown;exact⟨es,clock,(hW.block b hbl).trans hb,rest⟩
 exact keys1 n hn l Bm b nn D0 J Jx hY W hJ ((hW.cell (p:=⟨Bm,0,none⟩) hBm).trans hm) hown' h0
theorem keys(n:Nat)(mb:Option Nat)(w:World):CallsIn Fence.wide n Tryz.prog 190 #[.map mb] w fun e w'=>e=.returned (.func (.func 251) #[] #[.pointer (some ⟨w.heap.size,0,none⟩)])∧w'=w.alloc (.cells #[.map mb] 272):=by
 refine callsIn_of_wp func190 rfl trivial ?_ rfl;simp only[ntmps190,List.size_toArray,List.length_cons,List.length_nil,Nat.reduceAdd,Nat.reduceSub,Array.replicate_succ,Array.replicate_zero,List.push_toArray,List.append_toArray,List.nil_append,List.cons_append]
 gi_wp2
 go_ret;exact⟨rfl,rfl⟩
theorem infoU32:(Tryz.prog.info? 42).map (fun i=>(i.zero,i.size,i.bytes))=some (some (.int .u32 0),1,4):=by kernel_rfl
theorem appendSeq(n:Nat)(hn:2≤n)(g:Nat)(lb:Array Value)(eg:∀args w,(callFunc g args).run Tryz.prog w=.ok (.enter g args) w)(S Sp:List Int→Prop)(N:Nat)(hN:N≤maxLen)(hNb:N*4≤140737488355328)(w:World)
  (hseq:SeqStopsK Fence.wide (n - 1) Tryz.prog g lb (fun x:Int=> #[encU x]) KeepsWalks S Sp N w) (hSN:∀ss,S ss→ss.length≤N):
  CallsIn Fence.wide n Tryz.prog 158 #[.slice none 0 0,.func (.func g) #[] lb] w fun e w'=>∃(v:Value) (ss:List Int),e=.returned v∧S ss∧w'.ownsRow w.heap.size 42 1 v ss.length (ss.map encU)∧Below w.heap.size w w':=by
 have h1:1≤n:=by omega
 obtain⟨i0,hi,hz0,hz1,hz2⟩:=info_parts infoU32;refine callsIn_of_wp_marks func158 rfl trivial ?_ rfl;simp only[ntmps158,List.size_toArray,List.length_cons,List.length_nil,Nat.reduceAdd,Nat.reduceSub,Array.replicate_succ,Array.replicate_zero,List.push_toArray,List.append_toArray,List.nil_append,List.cons_append]
 gi_wp2
 have bO:=Boxed.new w 41 (.slice none 0 0);have hB0:Below w.heap.size w (w.alloc (.cells #[.slice none 0 0] 41)):=(Below.refl _ w).alloc (Nat.le_refl _) _;refine wpIn_rangeFunc_ownG rfl h1 (gf:=g) (lb:=lb) rfl trivial eg hseq walksK_t walksK_b hB0 (fun _=>rfl)
  (fun pre W=>(∃v,Boxed W w.heap.size 41 v∧W.ownsRow w.heap.size 42 1 v pre.length (pre.map encU)∧(v=.slice none 0 0↔pre=[]))∧Below w.heap.size w W)
  (fun _ _ _=>False)
  (OwnFrom.and (Own.from (holdsRow_own w.heap.size w.heap.size 41 42 1 (fun pre=>pre.length) (fun pre=>pre.map encU) (fun pre v=>v=.slice none 0 0↔pre=[])) _) (ownFrom_below (Nat.le_refl _) (by simp)))
  (fun _ _ _ _ _ hs _ _=>hs)
  ⟨⟨_,bO,World.ownsRow_nil _ _ _ _,by simp⟩,hB0⟩
  (fun x=> { tmps:= #[.slice none 0 0,.func (.func g) #[] lb,.pointer (some ⟨w.heap.size,0,none⟩),undef,.slice none 0 0,encU x,.func (.func g) #[] lb,encU x,undef,undef,undef,undef,undef],defers:=[] }) ?assign ?body ?done ?stop
 case assign=>
  intro l x W K hK
  gi_wp2
  exact hK
 case body=>
  rintro l pre x W ⟨⟨v,hv,hrow,hnil⟩,hB⟩ hlt;have hc:=hv.cell
  gi_wp2_with (gi_at_builtin;refine wpListIn_append_own _ rfl _ _ 41 rfl w.heap.size 42 i0 (.int .u32 0) 1 4 Tryz.underlying41 hi hz0 hz1 hz2 rfl (by decide) _ _ _ rfl (hrow.alloc _) ⟨W.heap.size,0,none⟩ 1 1 [encU x] rfl rfl (cell_one_new _ _ _) (by simp[Value.oneCell',encU]) (by omega) (by omega) (by have:=hB.size;simp;omega) ?_;intro v' w1 hown' hgrow _;obtain⟨g',cap',rfl⟩:=ownsRow_succ hown';obtain⟨hv1,hv2,hr2,hk2,hb2⟩:=hv.appended (by decide) hrow hB.size (Nat.le_refl _) hown' hgrow;have hc1:=hv1.cell;have hf1:=hv1.frozen)
  exact⟨hk2.from _,hk2.walks,⟨_,hv2,by simpa using hr2,by simp⟩,hB.trans hb2⟩
 case done=>
  rintro D ys W hD hys ⟨⟨v,hv,hrow,hnil⟩,hB⟩ hK;have hc:=hv.cell
  gi_wp2
  refine⟨by simp,.inl ⟨_,_,rfl,run_takeDeferred hK, ?_⟩⟩;exact⟨_,results_tmp rfl _ _ _,v,ys,rfl,hys,ownsRow_putObj hrow _ hK rfl,hB.trans (belowK_b (w:=w) (Nat.le_refl _) W D _ _ (by simp at hD;omega) hK rfl rfl)⟩
 case stop=>
  rintro D c pre W _ _ h _;exact h.elim
theorem collect(n:Nat)(hn:3≤n)(g:Nat)(lb:Array Value)(eg:∀args w,(callFunc g args).run Tryz.prog w=.ok (.enter g args) w)(S Sp:List Int→Prop)(N:Nat)(hN:N≤maxLen)(hNb:N*4≤140737488355328)(w:World)
  (hseq:SeqStopsK Fence.wide (n - 1 - 1) Tryz.prog g lb (fun x:Int=> #[encU x]) KeepsWalks S Sp N w) (hSN:∀ss,S ss→ss.length≤N):
  CallsIn Fence.wide n Tryz.prog 112 #[.func (.func g) #[] lb] w fun e w'=>∃(v:Value) (ss:List Int),e=.returned v∧S ss∧w'.ownsRow w.heap.size 42 1 v ss.length (ss.map encU)∧Below w.heap.size w w':=by
 have h1:1≤n:=by omega
 refine callsIn_of_wp func112 rfl trivial ?_ rfl;simp only[ntmps112,List.size_toArray,List.length_cons,List.length_nil,Nat.reduceAdd,Nat.reduceSub,Array.replicate_succ,Array.replicate_zero,List.push_toArray,List.append_toArray,List.nil_append,List.cons_append];have hc:=appendSeq (n - 1) (by omega) g lb eg S Sp N hN hNb w hseq hSN;have hf:Fence.wide.fn 158:=trivial
 gi_wp2_with (gi_at_call 158;refine hc.mono ?_;rintro e w' ⟨v,ss,rfl,hS,hrow,hb⟩)
 go_ret;exact⟨v,ss,rfl,hS,hrow,hb⟩
def SortedPost(w:World)(S:List Int→Prop)(e:Ending)(w':World):Prop:=
 ∃(v:Value) (ss:List Int),e=.returned v∧(∃ys,S ys∧ss.Perm ys)∧ss.Pairwise (fun x y=>x≤y)∧w'.ownsRow w.heap.size 42 1 v ss.length (ss.map encU)∧Below w.heap.size w w'
theorem sw_of_row{w':World}{gb cap:Nat}{cur:Array Value}{ss:List Int}(hg:w'.heap[gb]? =some (.cells cur 42 (0,0)))(hs:cur.size=cap*1)(ht:cur.toList.take (ss.length*1)=ss.map encU):Srt.SW w' w' gb 0 42 cur.size ss.toArray:=by
 refine⟨Mod.refl _ _,cur,hg,rfl,fun j hj=> ?_⟩;simp at hj;have h2:(cur.toList.take (ss.length*1))[j]? =(ss.map encU)[j]? :=by rw[ht]
 rw[List.getElem?_take_of_lt (by omega),List.getElem?_map,Zg hj] at h2;rw[Nat.zero_add,getElem!_pos ss.toArray j (by simpa using hj)]
 simpa using h2
theorem sortedIn_pairwise{d:Array Int}{n:Nat}(hn:d.size=n)(h:Sort.SortedIn Sort.ltInt 0 n d):d.toList.Pairwise (fun x y=>x≤y):=by
 rw[List.pairwise_iff_getElem];intro i j hi hj hij;have:=h i j (Nat.zero_le _) hij (by simpa [hn] using hj);rw[getElem!_pos d j (by simpa using hj),getElem!_pos d i (by simpa using hi)] at this;simp[Sort.ltInt] at this
 simpa using this
theorem perm_of_permIn{d d':Array Int}(h:Sort.PermIn 0 d.size d d'):d'.toList.Perm d.toList:=by
 have:=h.2.2;rw[show d'.extract 0 d.size=d' by rw[←h.1];simp,show d.extract 0 d.size=d by simp] at this;exact this
theorem ins_none(w:World):Calls Tryz.prog 213 #[.slice none 0 0,.int .i64 0,.int .i64 0] w fun e w'=>e=.returned (.tuple #[])∧w=w':=by
 go_enter func213,ntmps213;go_wp2;refine wp_loop_rounds 1 ?_;rw[rounds_succ];go_wp2;go_end0;exact⟨rfl,rfl⟩
theorem pdq_none(k:Int)(w:World):Calls Tryz.prog 159 #[.slice none 0 0,.int .i64 0,.int .i64 0,.int .i64 k] w fun e w'=>e=.returned (.tuple #[])∧w=w':=by
 go_enter func159,ntmps159;go_wp2;refine wp_loop_rounds 1 ?_;rw[rounds_succ];go_wp2_with (go_at_call 213;(with_reducible refine(ins_none _).mono ?_);rintro x w1 ⟨rfl,rfl⟩)
 (try simp only[Exit.inBlock,Exit.then]);refine bodyPost_ret (results_none rfl _ _ _) rfl ?_
 exact⟨rfl,rfl⟩
theorem sort_none(w:World):Calls Tryz.prog 113 #[.slice none 0 0] w fun e w'=>e=.returned (.tuple #[])∧w=w':=by
 have hl:∀w,Calls Tryz.prog 160 #[.int .u64 0] w fun e w'=>e=.returned (.int .i64 0)∧w=w':=fun w=>Srt.bitsLen_any 0 (by omega) w
 go_enter func113,ntmps113;go_wp2_with (first|(go_at_call 160;(with_reducible refine(hl _).mono ?_);rintro x w' ⟨rfl,rfl⟩)|(go_at_call 159;(with_reducible refine(pdq_none _ _).mono ?_);rintro x w' ⟨rfl,rfl⟩));go_end0;exact⟨rfl,rfl⟩
theorem sorted(n:Nat)(hn:4≤n)(g:Nat)(lb:Array Value)(eg:∀args w,(callFunc g args).run Tryz.prog w=.ok (.enter g args) w)(S Sp:List Int→Prop)(N:Nat)(hN:N<65536)(w:World)
  (hseq:SeqStopsK Fence.wide (n - 1 - 1 - 1) Tryz.prog g lb (fun x:Int=> #[encU x]) KeepsWalks S Sp N w) (hSN:∀ss,S ss→ss.length≤N):
  CallsIn Fence.wide n Tryz.prog 63 #[.func (.func g) #[] lb] w (SortedPost w S):=by
 have h1:1≤n:=by omega
 refine callsIn_of_wp func63 rfl trivial ?_ rfl;simp only[ntmps63,List.size_toArray,List.length_cons,List.length_nil,Nat.reduceAdd,Nat.reduceSub,Array.replicate_succ,Array.replicate_zero,List.push_toArray,List.append_toArray,List.nil_append,List.cons_append];have hc:=collect (n - 1) (by omega) g lb eg S Sp N (by unfold maxLen;omega) (by omega) w hseq hSN;have hf:Fence.wide.fn 112:=trivial;have hf2:Fence.wide.fn 113:=trivial
 gi_wp2_with (gi_at_call 112;refine hc.mono ?_;rintro e W ⟨v,ss,rfl,hS,hrow,hb⟩)
 have hlen:=hSN ss hS;rcases hrow.2 with⟨rfl,hz⟩|⟨gb,cap,cur,rfl,hbase,hgb,r1,r2,r3,r4⟩
 ·obtain rfl:ss=[]:=List.eq_nil_of_length_eq_zero hz;have hso:=callsIn_wide (n:=n - 1)|>.2 (sort_none W)
  gi_wp2_with (gi_at_call 113;refine hso.mono ?_;rintro e w' ⟨rfl,rfl⟩)
  go_ret;exact⟨_,[],rfl,⟨[],hS,.refl _⟩,.nil,hrow,hb⟩
 ·have hsw:=sw_of_row hgb r3 r4;have hso:=callsIn_wide (n:=n - 1)|>.2 (Srt.sort hsw cap ss.length (by simp) (by omega))
  gi_wp2_with (gi_at_call 113;refine hso.mono ?_;rintro e w' ⟨d',rfl,p1,p2,p3⟩)
  go_ret;have hsz:ss.toArray.size=ss.length:=by simp
  have hd:d'.size=ss.length:=p1.1;have hpp:=perm_of_permIn (by rw[hsz];exact p1);refine⟨_,d'.toList,rfl,⟨ss,hS,hpp⟩,sortedIn_pairwise hd p2, ?_, ?_⟩
  ·obtain⟨cur',hb',hs',hc'⟩:=p3.row;have hdl:d'.toList.length=ss.length:=by rw[Array.length_toList];exact hd
   refine⟨by rw[List.length_map];omega,.inr ⟨gb,cap,cur',by rw[hdl];rfl,hbase,hb',by omega,r2,by rw[hs',r3], ?_⟩⟩
   apply List.ext_getElem?
   intro j
   by_cases hj:j<ss.length
   ·rw[List.getElem?_take_of_lt (by omega),List.getElem?_map,Array.getElem?_toList,Array.getElem?_toList];have:=hc' j (by omega);rw[Nat.zero_add] at this;rw[this,getElem!_pos d' j (by omega),Array.getElem?_eq_getElem (by omega)];rfl
   ·rw[List.getElem?_eq_none (by rw[List.length_take];omega),List.getElem?_eq_none (by rw[List.length_map];omega)]
  ·exact Mod.below hb p3.mod hb.size fun k _ hk=>by subst hk;exact hbase
theorem rising_eq{l l':List Int}(h:l.Perm l')(h1:l.Pairwise (fun x y=>x≤y))(h2:l'.Pairwise (fun x y=>x≤y)):l=l':=
 List.Perm.eq_of_pairwise (le:=fun a b=>a≤b) (fun a b _ _ g1 g2=>Int.le_antisymm g1 g2) h1 h2 h
theorem row_base{W:World}{base base':Nat}{e:TypeId}{size:Nat}{v:Value}{k:Nat}{xs:List Value}(h:W.ownsRow base e size v k xs)(hb:base'≤base):W.ownsRow base' e size v k xs:=by
 obtain⟨hl,h⟩:=h;refine⟨hl,h.imp id ?_⟩;rintro⟨g,cap,cur,rfl,g1,rest⟩;exact⟨g,cap,cur,rfl,Nat.le_trans hb g1,rest⟩
def addrs(A:List Pg):List Int:=A.map (·.addr)
theorem mem_addrs{A:List Pg}{x:Int}:x∈addrs A↔(atAddr A x).isSome=true:=by
 constructor
 ·intro h;cases hx:atAddr A x with
  |some p=>rfl
  |none=>
   obtain⟨p,hp,e⟩:=List.mem_map.1 h;exact absurd e (atAddr_none hx p hp)
 ·intro h;obtain⟨p,hp⟩:=Option.isSome_iff_exists.1 h;have:=atAddr_mem hp;exact List.mem_map.2 ⟨p,this.1,this.2⟩
theorem addrs_up{A:List Pg}(h:A.Pairwise fun p q=>p.addr<q.addr):(addrs A).Pairwise (fun x y=>x≤y)∧(addrs A).Nodup:=by
 constructor
 ·exact List.pairwise_map.2 (h.imp fun g=>by omega)
 ·exact List.pairwise_map.2 (h.imp fun g=>by omega)
def PagesPost(A:List Pg)(w:World)(e:Ending)(w':World):Prop:=∃v:Value,e=.returned v∧w'.ownsRow w.heap.size 42 1 v A.length ((addrs A).map encU)∧Below w.heap.size w w'
theorem pages{w:World}{sb mb:Nat}{A:List Pg}(h:Spc w sb mb A):Calls Tryz.prog 137 #[.pointer (some ⟨sb,0,none⟩)] w (PagesPost A w):=by
 refine(callsIn_wide (n:=7)).1 ?_;have hc:=h.cellHead;have hmbl:=h.lt (.inr (.inl rfl));obtain⟨D,n,ho,hv,hs⟩:=h.map;have hln:=h.len;have hh:∀x,has D (.int .u32 x)=(atAddr A x).isSome:=by
  intro x;cases hx:atAddr A x with
  |some p=>exact has_true_of_atKey (y:=.lit (.int .i64 p.blk)) fun zd=>by rw[hv,hx]
  |none=>exact has_false_of_atKey fun z=>by rw[hv,hx]
 have hbel:Below w.heap.size w (w.alloc (.cells #[.map (some mb)] 272)):=(Below.refl _ w).alloc (Nat.le_refl _) _;have hst:=keys_stops (R:=ptrElem) 3 (by omega) w.heap.size mb n D (w.alloc (.cells #[.map (some mb)] 272)) (by simp) (by simp) (by
  obtain⟨es,clock,hb,rest⟩:=ho;exact⟨es,clock,(hbel.block mb hmbl).trans hb,rest⟩)
 have hup:=addrs_up h.up;have hperm:∀ss:List Int,(ss.Nodup∧∀x,x∈ss↔has D (.int .u32 x)=true)→ss.Perm (addrs A):=fun ss g=>(List.perm_ext_iff_of_nodup g.1 hup.2).2 fun x=>by rw[g.2,hh,mem_addrs]
 have cS:=sorted 6 (by omega) 251 #[.pointer (some ⟨w.heap.size,0,none⟩)] (enters_of func251 (by kernel_rfl) rfl) _ _ (Maps.size D) (by omega) _ hst (fun ss g=>by
  have:=(hperm ss g).length_eq;unfold addrs at this;rw[List.length_map] at this;omega)
 have cK:=fun mb W=>keys 6 mb W
 have hfK:Fence.wide.fn 190:=trivial;have hfS:Fence.wide.fn 63:=trivial;clear h hs hln hv ho hh hst;refine callsIn_of_wp func137 rfl trivial ?_ rfl;simp only[ntmps137,List.size_toArray,List.length_cons,List.length_nil,Nat.reduceAdd,Nat.reduceSub,Array.replicate_succ,Array.replicate_zero,List.push_toArray,List.append_toArray,List.nil_append,List.cons_append]
 gi_wp2_with (first
  |(gi_at_call 190;refine(cK _ _).mono ?_;rintro e w' ⟨rfl,rfl⟩)
  |(gi_at_call 63;refine cS.mono ?_;rintro e w' ⟨v,ss,rfl,⟨ys,hys,hp⟩,hpw,hrow,hb⟩))
 go_ret;have e:=rising_eq (hp.trans (hperm ys hys)) hpw hup.1;subst e;have hl:(addrs A).length=A.length:=by unfold addrs;rw[List.length_map]
 rw[hl] at hrow;exact⟨_,rfl,row_base hrow (by simp),hbel.trans (hb.mono (by simp))⟩
end Go.Proofs.YtnpicaigdfnmfaaGreat.Pag
namespace Go.Proofs.YtnpicaigdfnmfaaGreat
open Go.RowKit
theorem rsp_nil{w:World}{rb:Nat}(h:w.heap[rb]? =some (.cells #[.slice none 0 0] 201 (0,0))):Rsp w rb (.slice none 0 0) []:=
 ⟨h,World.ownsRow_nil _ _ _ _,fun q hq=>by simp at hq,.nil,.nil⟩
end Go.Proofs.YtnpicaigdfnmfaaGreat
namespace Go.Proofs.YtnpicaigdfnmfaaGreat.Rs
open Go.RowKit Pag
structure Words(w:World)(a:Option Addr)(xs:List Int):Prop where
 cell:∀i,(h:i<xs.length)→∃g o,a=some ⟨g,o,none⟩∧w.cell? ⟨g,o+i,none⟩=some (.int .u32 xs[i])
 len:xs.length≤9223372036854775807
end Go.Proofs.YtnpicaigdfnmfaaGreat.Rs
namespace Go.Proofs.YtnpicaigdfnmfaaGreat
open Go.RowKit
theorem fold_set(off:Nat):∀(L:List Value) (k:Nat) (Z:Array Value),off+k+L.length≤Z.size→((L.zipIdx k).foldl (fun(cs:Array Value) (x:Value×Nat)=>cs.setIfInBounds (off+x.2) x.1) Z).size=Z.size∧
  ∀i,((L.zipIdx k).foldl (fun(cs:Array Value) (x:Value×Nat)=>cs.setIfInBounds (off+x.2) x.1) Z)[i]? =if off+k≤i∧i<off+k+L.length then L[i - (off+k)]? else Z[i]?
 | [],k,Z,_=>⟨rfl,fun i=>by rw[if_neg (by rw[List.length_nil];omega)];rfl⟩
 |x::L,k,Z,h=>by
  obtain⟨h1,h2⟩:=fold_set off L (k+1) (Z.setIfInBounds (off+k) x) (by simp at h⊢;omega);rw[List.zipIdx_cons,List.foldl_cons];refine⟨by rw[h1];simp,fun i=> ?_⟩;rw[h2 i];simp only[List.length_cons] at h⊢
  by_cases e:i=off+k
  ·subst e;rw[if_neg (by omega),if_pos (by omega),Nat.sub_self,Array.getElem?_setIfInBounds,if_pos rfl,if_pos (by omega)];rfl
  ·by_cases g:off+k≤i∧i<off+k+(L.length+1)
   ·rw[if_pos (by omega),if_pos g,show i - (off+k)=(i - (off+(k+1)))+1 by omega];rfl
   ·rw[if_neg (by omega),if_neg g,Array.getElem?_setIfInBounds,if_neg (by omega)]
theorem fold_page(Z:Array Value)(hZ:Z.size=257)(a:Int)(bs:List Value)(hb:bs.length=256):
  List.foldl (fun(cs:Array Value) (x:Value×Nat)=>cs.setIfInBounds (1+x.snd) x.fst) (Z.setIfInBounds 0 (.int .u8 a)) bs.zipIdx=(Value.int .u8 a::bs).toArray:=by
 obtain⟨g1,g2⟩:=fold_set 1 bs 0 (Z.setIfInBounds 0 (.int .u8 a)) (by simp[hZ,hb])
 apply Array.ext_getElem?
 intro i;rw[g2 i];cases i with
 |zero=>simp[hZ]
 |succ i=>
  by_cases g:1+0≤i+1∧i+1<1+0+bs.length
  ·rw[if_pos g];simp
  ·rw[if_neg g];rw[Array.getElem?_eq_none (by simp;omega),Array.getElem?_eq_none (by simp;omega)]
theorem zeroPageSize:Tryz.zeroCells236.size=257:=by kernel_rfl
def Pg.core(p:Pg):Int×Int×List Int:=(p.addr,p.perm,p.bytes)
def cores(A:List Pg):List (Int×Int×List Int):=A.map Pg.core
theorem Spc.insertPg{w:World}{sb mb:Nat}{A:List Pg}(h:Spc w sb mb A)(p:Pg)(hp:p.ok)(hn:atAddr A p.addr=none)(hblk:w.heap[p.blk]? =some (.cells p.cells 236 (0,0)))(hfresh:¬Spc.foot sb mb A p.blk):
  ∃w',(Instr.mapUpdate 272 (.map (some mb)) (.int .u32 p.addr) (.pointer (some ⟨p.blk,0,none⟩))).run Tryz.prog w=.ok () w'∧Spc w' sb mb (insPg p A)∧w.grownBy w' (some mb):=by
 obtain⟨D,n,ho,hv,hs⟩:=h.map;have ht:=own_tight ho;have hl:=h.len;have K:=Maps.int_keyed (P:=Tryz.prog) Tryz.underlying42;have h0:=hp.a0;have h1:=hp.a1;have hk:=Maps.keyOf_int_mk (P:=Tryz.prog) Tryz.underlying42 (wf_u32 h0 (by omega:p.addr≤4294967295));obtain⟨w',hrun,how,htu⟩:=ht.store K Tryz.underlying272 (by rw[hs];unfold maxLen;omega) (val:=.pointer (some ⟨p.blk,0,none⟩)) (d:=.lit (.int .i64 p.blk)) (ps:=[]) hk rfl;have hg:=htu.grown;have hne:∀k,k<w.heap.size→k≠mb→w'.heap[k]? =w.heap[k]? :=fun k hk hkm=>hg.block k hk (by simpa using hkm)
 refine⟨w',hrun,⟨?_, ?_, ?_, ?_, ?_, ?_⟩,hg⟩
 ·exact(hne sb (h.lt (.inl rfl)) h.ne_hm).trans h.head
 ·refine⟨_,_,how,fun x zd=> ?_, ?_⟩
  ·rw[atAddr_ins h.up hn]
   by_cases e:x=p.addr
   ·subst e;rw[if_pos rfl,Maps.atKey_put_same ht.isMap (K.key hk)]
   ·rw[if_neg e,Maps.atKey_put_other (by intro g;simp at g;exact e g),hv]
  ·rw[Maps.size_put (ht.tidy K),length_insPg,hs];have:Maps.has D (.int .u32 p.addr)=false:=Maps.has_false_of_atKey fun z=>by rw[hv,hn]
   rw[this];rfl
 ·intro q hq;rcases mem_insPg.1 hq with rfl|hq'
  ·exact(hne _ (lQ hblk) (fun e=>hfresh (.inr (.inl e)))).trans hblk
  ·exact(hne q.blk (lQ (h.page q hq')) (h.ne_map hq').symm).trans (h.page q hq')
 ·intro q hq;rcases mem_insPg.1 hq with rfl|hq'
  ·exact hp
  ·exact h.ok q hq'
 ·exact up_insPg h.up (atAddr_none hn)
 ·exact pw_insPg h.blks fun q hq e=>hfresh (.inr (.inr ⟨q,hq,e.symm⟩))
theorem cores_eq{A:List Pg}(h:A.Pairwise fun p q=>p.addr<q.addr):cores A=(A.map (·.addr)).map fun a=>((atAddr A a).map Pg.core).getD (0,0,[]):=by
 unfold cores;rw[List.map_map];refine List.map_congr_left fun p hp=> ?_
 show Pg.core p=((atAddr A p.addr).map Pg.core).getD _
 rw[atAddr_eq_some h hp];rfl
theorem rising_unique:∀ {l l':List Int},l.Pairwise (fun x y=>x<y)→l'.Pairwise (fun x y=>x<y)→(∀x,x∈l↔x∈l')→l=l':=by
 intro l l' h1 h2 h;refine List.Perm.eq_of_pairwise (le:=fun a b=>a<b) (fun a b _ _ g1 g2=>absurd g1 (by omega)) h1 h2 ((List.perm_ext_iff_of_nodup (h1.imp fun g=>by omega) (h2.imp fun g=>by omega)).2 h)
theorem cores_ext{A C:List Pg}(hA:A.Pairwise fun p q=>p.addr<q.addr)(hC:C.Pairwise fun p q=>p.addr<q.addr)(h:∀x,(atAddr C x).map Pg.core=(atAddr A x).map Pg.core):cores C=cores A:=by
 have hm:∀(B:List Pg) x,x∈B.map (·.addr)↔(atAddr B x).isSome=true:=by
  intro B x
  constructor
  ·intro g;cases hx:atAddr B x with
   |some p=>rfl
   |none=>
    obtain⟨p,hp,e⟩:=List.mem_map.1 g;exact absurd e (atAddr_none hx p hp)
  ·intro g;obtain⟨p,hp⟩:=Option.isSome_iff_exists.1 g;exact List.mem_map.2 ⟨p,(atAddr_mem hp).1,(atAddr_mem hp).2⟩
 have hadd:C.map (·.addr)=A.map (·.addr):=by
  refine rising_unique (List.pairwise_map.2 hC) (List.pairwise_map.2 hA) fun x=> ?_
  rw[hm,hm];have:=congrArg Option.isSome (h x)
  simpa using Iff.of_eq (congrArg (·=true) this)
 rw[cores_eq hA,cores_eq hC,hadd];exact List.map_congr_left fun a _=>by rw[h]
namespace Sp
def cpRel(w:World)(sb mb:Nat)(A:List Pg)(D:DataW Unit)(n sb' mb' r:Nat)(wr:World):Prop:=
 ∃(left:Lit→Bool) (cnt:Nat) (C:List Pg),wr.ranges Tryz.prog 42 ptrElem mb r n D left cnt∧Spc wr sb mb A∧Spc wr sb' mb' C∧(∀k,Spc.foot sb' mb' C k→w.heap.size≤k)∧r≠sb'∧r≠mb'∧(∀p,p∈C→p.blk≠r)∧w.heap.size≤r∧Below w.heap.size w wr∧
  ∀x,(atAddr C x).map Pg.core=if left (.int .u32 x) then none else(atAddr A x).map Pg.core
def CopyPost(w:World)(A:List Pg)(e:Ending)(w':World):Prop:=
 ∃(sb' mb':Nat) (C:List Pg),e=.returned (.pointer (some ⟨sb',0,none⟩))∧Spc w' sb' mb' C∧cores C=cores A∧(∀k,Spc.foot sb' mb' C k→w.heap.size≤k)∧Below w.heap.size w w'
theorem copy{w:World}{sb mb:Nat}{A:List Pg}(h:Spc w sb mb A):Calls Tryz.prog 138 #[.pointer (some ⟨sb,0,none⟩)] w (CopyPost w A):=by
 have K:=Maps.int_keyed (P:=Tryz.prog) Tryz.underlying42;obtain⟨D,n,ho,hv,hs⟩:=h.map;have Hv:=Lh hv;have H:=Lh h;have hfl:∀k,Spc.foot sb mb A k→k<w.heap.size:=fun k hk=>h.lt hk
 have Hfl:=Lh hfl;have Ho:=Lh ho;clear h hv hs hfl ho;go_enter func138,ntmps138;go_wp2_with fail;refine(new _).mono ?_;rintro e w1 ⟨rfl,h1,hb1,hz1⟩;have hs1:=H.out.below hb1 Hfl.out;have hc:=hs1.cellHead;have ho1:w1.ownsMap Tryz.prog 42 ptrElem mb n D:=own_of_block Ho.out (hb1.block mb (Hfl.out mb (.inr (.inl rfl))));have Ho1:=Lh ho1;have H1:=Lh h1;have Hs1:=Lh hs1;have Hb1:=Lh hb1;have Hz1:=Lh hz1;clear hs1 h1 hb1 ho1 hz1;obtain⟨sb',hsb'⟩:∃s,w.heap.size+1=s:=⟨_,rfl⟩;obtain⟨mb',hmb'⟩:∃s,w.heap.size=s:=⟨_,rfl⟩;have Hsb:=Lh hsb';have Hmb:=Lh hmb';rw[hsb'] at H1⊢;rw[hmb'] at H1;clear hsb' hmb';go_wp2_with (at_range;refine wpList_range_own _ rfl _ 272 rfl 42 237 K Tryz.underlying272 ptrElem mb n D rfl Ho1.out ?_;intro w2 hrg hg2 hz2);obtain⟨r,hr⟩:∃r,w1.heap.size=r:=⟨_,rfl⟩;rw[hr] at hrg⊢;have Hr:=Lh hr;have h2:cpRel w sb mb A D n sb' mb' r w2:=by
  have hz:=Hz1.out;have e1:=Hsb.out;have e2:=Hmb.out;have hb2:Below w.heap.size w w2:=Hb1.out.grown hg2 Hb1.out.size (fun k e=>by cases e);refine⟨_,_,[],hrg,H.out.below hb2 Hfl.out,H1.out.frame fun k hk=>hg2.block k ?_ (by simp),fun k hk=> ?_,by omega,by omega,fun p hp=>by simp at hp,by omega,hb2,fun x=> ?_⟩
  ·exact H1.out.lt hk
  ·rcases hk with rfl|rfl|⟨p,hp,_⟩
   ·omega
   ·omega
   ·simp at hp
  ·have:Maps.has D (.int .u32 x)=(atAddr A x).isSome:=by
    cases hx:atAddr A x with
    |some p=>exact Maps.has_true_of_atKey (y:=.lit (.int .i64 p.blk)) fun zd=>by rw[Hv.out,hx]
    |none=>exact Maps.has_false_of_atKey fun z=>by rw[Hv.out,hx]
   rw[this];cases atAddr A x<;>rfl
 have H2:=Lh h2;clear hr hrg hg2 hz2 h2 hc;go_frame;go_loopw [4,5] (fun _ _ wr=>cpRel w sb mb A D n sb' mb' r wr) (fun _ _ wr=>wr.rangeLeft mb r)
 case atStart=>exact H2.out
 case round=>
  clear H2 Hs1 H1 Ho1 Hb1 Hz1 Ho Hr;clear w2 w1;obtain⟨left,cnt,C,hrg,hsA,hsC,hft,hr1,hr2,hr4,hr3,hbw,hat⟩:=hrel;have Hrg:=Lh hrg;have HA:=Lh hsA;have HC:=Lh hsC;have Hft:=Lh hft;have Hr3:=Lh hr3;have Hbw:=Lh hbw;have Hat:=Lh hat
  clear hrg hsA hsC hft hr3 hbw hat
  go_wp2_with (at_next;refine wpList_next_ranges _ rfl _ rfl 42 K ptrElem (Value.int .u32) id (fun key kl hk=>by obtain⟨x,hx,_⟩:=Maps.keyOf_int_inv Tryz.underlying42 hk;exact⟨x,hx⟩) (fun v _ _=>⟨v,rfl⟩) mb r n D left cnt rfl Hrg.out ?_ ?_)
  ·intro hc0 hl0;go_wp2;go_ret;exact⟨sb',mb',C,rfl,HC.out,cores_ext H.out.up HC.out.up fun x=>by rw[Hat.out,hl0];rfl,Hft.out,Hbw.out⟩
  ·intro x c kl y1 y2 w3 cnt2 hkey hlk hR hat3 hrg3 hlt hg3 hs3 hen;obtain⟨x',ex,rfl,hwx⟩:=Pag.keyOf_u32 Tryz.underlying42 hkey;obtain rfl:x=x':=by simpa [Pag.encU] using ex
   obtain⟨p,hp,hy⟩:∃p,atAddr A x=some p∧y1=.lit (.int .i64 p.blk):=by
    cases hx:atAddr A x with
    |some p=>exact⟨p,rfl,by rw[←hat3 y1,Hv.out,hx]⟩
    |none=>
     have g1:=hat3 (.lit (.int .i64 0));have g2:=hat3 (.lit (.int .i64 1));rw[Hv.out,hx] at g1 g2;rw[←g1] at g2;simp at g2
   subst hy;obtain rfl:c=.pointer (some ⟨p.blk,0,none⟩):=by
    rcases ptrElem_inv hR with⟨_,hb⟩|⟨b,e,hb⟩
    ·omega
    ·have:b=p.blk:=by omega
     subst this;exact e
   have hpm:=atAddr_mem hp;obtain⟨hpm,rfl⟩:=hpm;have hw3b:Below w.heap.size w w3:=Hbw.out.grown hg3 Hbw.out.size (fun k e=>by cases e;exact Hr3.out);have hA3:Spc w3 sb mb A:=H.out.below hw3b Hfl.out;have hC3:Spc w3 sb' mb' C:=HC.out.frame fun k hk=>hg3.block k (HC.out.lt hk) (by
    rintro e;cases e;rcases hk with g|g|⟨q,hq,g⟩
    ·exact hr1 g
    ·exact hr2 g
    ·exact hr4 q hq g.symm)
   have hcn:atAddr C p.addr=none:=by
    have:=Hat.out p.addr;rw[if_pos hlk] at this
    simpa using this
   have hpo:=hA3.ok p hpm;have hpg:=hA3.page p hpm
   -- the new page
   obtain⟨q,hq⟩:∃q:Pg,q= { p with blk:=w3.heap.size }:=⟨_,rfl⟩;have hq1:q.addr=p.addr:=by rw[hq]
   have hq2:q.blk=w3.heap.size:=by rw[hq]
   have hqc:q.cells=p.cells:=by rw[hq];rfl
   have hqo:q.ok:=by rw[hq];exact⟨hpo.a0,hpo.a1,hpo.a2,hpo.p0,hpo.p1,hpo.len,hpo.bd⟩
   have hC4:Spc (w3.alloc (.cells q.cells 236)).drew sb' mb' C:=hC3.frame fun k hk=>by
    have:=hC3.lt hk;exact Below.heap_alloc _ _ _ this
   have hbq:(w3.alloc (.cells q.cells 236)).drew.heap[q.blk]? =some (.cells q.cells 236 (0,0)):=by rw[hq2];exact heap_alloc_new w3 _
   obtain⟨w5,hrun,hC5,hg5⟩:=hC4.insertPg q hqo (by rw[hq1];exact hcn) hbq (fun g=>by have:=hC3.lt g;omega);rw[hq1,hq2,hqc] at hrun;rw[show p.cells=_ from(fold_page _ zeroPageSize p.perm (p.bytes.map (Value.int .u8)) (by rw[List.length_map,hpo.len])).symm] at hrun;have hch:=hC3.cellHead;have hcp:=hA3.cellPerm hpm;have hra:w3.rangeAt p.blk 1 (p.bytes.map (Value.int .u8)):=fun j v hj=>by
    have hj':j<256:=by have g1:=(List.getElem?_eq_some_iff.1 hj).1;have g2:=hpo.len;rw[List.length_map] at g1;omega
    rw[hA3.cellByte hpm j hj',←hj];have hl:=hpo.len;simp[List.getD,Zg (show j<p.bytes.length by omega)]
   have hund:=Tryz.underlying234;have hplen:=hpo.len;have hinf:(Tryz.prog.info? 234).map (·.size)=some (p.bytes.map (Value.int .u8)).length:=by rw[List.length_map,hpo.len];kernel_rfl
   have hmbl:=Hfl.out mb (.inr (.inl rfl));have hmb2:=Hft.out mb' (.inr (.inl rfl));have hrl:=hrg3.lt;have hg4:w3.grownBy (w3.alloc (.cells q.cells 236)).drew none:=by
    have g:=World.grownBy_alloc w3 (.cells q.cells 236) none;exact⟨g.os,g.tape,g.output,g.size,g.block⟩
   have hrg5:w5.ranges Tryz.prog 42 ptrElem mb r n D (fun z=>left z&& !z.sameKey (.int .u32 p.addr)) cnt2:=
    (hrg3.kept hg4 (by simp) (by simp)).kept hg5 (by intro e;cases e;omega) (by intro e;cases e;exact hr2 rfl)
   have hw5b:Below w.heap.size w w5:=(hw3b.grown hg4 hw3b.size (fun k e=>by cases e)).grown hg5 (by have:=hw3b.size;simp;omega) (fun k e=>by cases e;exact hmb2);have hA5:Spc w5 sb mb A:=H.out.below hw5b Hfl.out;have hch5:=hC5.cellHead;have hcp5:=hA5.cellPerm hpm;have hra5:w5.rangeAt p.blk 1 (p.bytes.map (Value.int .u8)):=fun j v hj=>by
    have hj':j<256:=by have g1:=(List.getElem?_eq_some_iff.1 hj).1;have g2:=hpo.len;rw[List.length_map] at g1;omega
    rw[hA5.cellByte hpm j hj',←hj];have hl:=hpo.len;simp[List.getD,Zg (show j<p.bytes.length by omega)]
   have fin:cpRel w sb mb A D n sb' mb' r w5:=by
    refine⟨_,cnt2,insPg q C,hrg5,hA5,hC5,fun k hk=> ?_,hr1,hr2,fun g hg=> ?_,Hr3.out,hw5b,fun x=> ?_⟩
    ·rcases foot_insPg.1 hk with g|g
     ·rw[g,hq2];exact hw3b.size
     ·exact Hft.out k g
    ·rcases mem_insPg.1 hg with rfl|g2
     ·rw[hq2];omega
     ·exact hr4 g g2
    ·rw[atAddr_ins hC3.up (by rw[hq1];exact hcn),hq1]
     by_cases e:x=p.addr
     ·subst e;rw[if_pos rfl,hp];simp[Lit.sameKey,hq,Pg.core]
     ·rw[if_neg e,Hat.out x];simp[Lit.sameKey,e]
   have Fin:=Lh fin;have Hrg5:=Lh hrg5;have Hlt:=Lh hlt;have Hrgl:=Lh Hrg.out.left_eq;have hsl:=Lh (hC3.lt (.inl rfl));have hpl:=Lh (hA3.lt (.inr (.inr ⟨p,hpm,rfl⟩)));clear hmbl hmb2 hrl hg4 hw5b hA5;clear fin hrg5 hlt hrg3 hg3 hs3 hA3 hC3 hcn hpo hpg hq hqo hC4 hbq hC5 hg5 hw3b hat3 hp hwx ex hR hlk hkey hpm Hat hqc hq1 hq2 hr1 hr2 hr4;go_wp2;go_region_held3 (fun w'=>w'.cell? ⟨sb',0,none⟩=some (.map (some mb'))∧w'.cell? ⟨p.blk,0,none⟩=some (.int .u8 p.perm)∧w'.rangeAt p.blk 1 (p.bytes.map (Value.int .u8)))
    (first
     |exact⟨hch,hcp,hra⟩
     |exact⟨hch5,hcp5,hra5⟩
     |exact⟨(World.cell?_of_block (w:=w3) (Below.heap_alloc _ _ _ hsl.out)).trans hch,(World.cell?_of_block (w:=w3) (Below.heap_alloc _ _ _ hpl.out)).trans hcp,World.rangeAt_alloc hra _⟩)
    (first|fail)
   all_goals
    go_wp2;exact⟨Fin.out,by rw[Hrg5.out.left_eq,Hrgl.out];exact Hlt.out⟩
end Sp
namespace Cor
theorem find_map(A:List Pg)(x:Int):(atAddr A x).map Pg.core=(cores A).find? fun c=>c.1 == x:=by
 unfold atAddr cores;rw[List.find?_map];rfl
theorem at_eq{A B:List Pg}(h:cores A=cores B)(x:Int):(atAddr A x).map Pg.core=(atAddr B x).map Pg.core:=by rw[find_map,find_map,h]
theorem page_eq{A B:List Pg}(h:cores A=cores B)(x:Int):(pageAt A x).map Pg.core=(pageAt B x).map Pg.core:=at_eq h _
theorem page_cases{A B:List Pg}(h:cores A=cores B)(x:Int):(pageAt A x=none∧pageAt B x=none)∨∃p q,pageAt A x=some p∧pageAt B x=some q∧p.addr=q.addr∧p.perm=q.perm∧p.bytes=q.bytes:=by
 have e:=page_eq h x;cases hA:pageAt A x with
 |none=>cases hB:pageAt B x with
  |none=>exact .inl ⟨rfl,rfl⟩
  |some q=>rw[hA,hB] at e;cases e
 |some p=>cases hB:pageAt B x with
  |none=>rw[hA,hB] at e;cases e
  |some q=>
   rw[hA,hB] at e;simp only[Option.map_some,Option.some.injEq,Pg.core,Prod.mk.injEq] at e;exact .inr ⟨p,q,rfl,rfl,e.1,e.2.1,e.2.2⟩
theorem okAt{A B:List Pg}(h:cores A=cores B)(need x:Int):Sp.okAt A need x=Sp.okAt B need x:=by
 unfold Sp.okAt;rcases page_cases h x with⟨h1,h2⟩|⟨p,q,h1,h2,_,e,_⟩
 ·rw[h1,h2]
 ·rw[h1,h2];simp only[e]
theorem byteAt{A B:List Pg}(h:cores A=cores B)(x:Int):Sp.byteAt A x=Sp.byteAt B x:=by
 unfold Sp.byteAt;rcases page_cases h x with⟨h1,h2⟩|⟨p,q,h1,h2,_,_,e⟩
 ·rw[h1,h2]
 ·rw[h1,h2];simp only[e]
theorem fitsB{A B:List Pg}(h:cores A=cores B)(addr:Int)(n:Nat)(need:Int):Sp.fitsB A addr n need=Sp.fitsB B addr n need:=by
 unfold Sp.fitsB
 congr 1
 funext k
 exact okAt h need _
theorem fitsE{A B:List Pg}(h:cores A=cores B)(addr:Int)(n:Nat)(need:Int):Sp.fitsE A addr n need=Sp.fitsE B addr n need:=by unfold Sp.fitsE;rw[fitsB h]
theorem getL{A B:List Pg}(h:cores A=cores B)(addr:Int)(n:Nat):Sp.getL A addr n=Sp.getL B addr n:=by
 unfold Sp.getL
 congr 1
 funext k
 exact byteAt h _
theorem getS{A B:List Pg}(h:cores A=cores B)(addr n need:Int):Sp.getS A addr n need=Sp.getS B addr n need:=by unfold Sp.getS;rw[fitsB h,getL h]
theorem some_eq{A B:List Pg}(h:cores A=cores B)(x:Int):(pageAt A x).isSome=(pageAt B x).isSome:=by
 rcases page_cases h x with⟨h1,h2⟩|⟨p,q,h1,h2,_⟩<;>rw[h1,h2]<;>rfl
theorem mapE{A B:List Pg}(h:cores A=cores B)(addr perm:Int):Sp.mapE A addr perm=Sp.mapE B addr perm:=by unfold Sp.mapE;rw[some_eq h]
theorem unmapE{A B:List Pg}(h:cores A=cores B)(addr:Int):Sp.unmapE A addr=Sp.unmapE B addr:=by unfold Sp.unmapE;rw[some_eq h]
theorem cons_inv{A:List Pg}{q:Pg}{B:List Pg}(h:cores A=cores (q::B)):∃p A',A=p::A'∧p.core=q.core∧cores A'=cores B:=by
 cases A with
 |nil=>cases h
 |cons p A'=>
  have h':p.core::cores A'=q.core::cores B:=h;rw[List.cons.injEq] at h';exact⟨p,A',rfl,h'.1,h'.2⟩
theorem nil_inv{A:List Pg}(h:cores A=cores []):A=[]:=by
 cases A with
 |nil=>rfl
 |cons p A'=>cases h
theorem addr_of{p q:Pg}(h:p.core=q.core):p.addr=q.addr:=congrArg Prod.fst h
theorem ins{p q:Pg}(hpq:p.core=q.core):∀ {A B:List Pg},cores A=cores B→cores (insPg p A)=cores (insPg q B)
 |A,[],h=>by rw[nil_inv h];show [p.core]=[q.core];rw[hpq]
 |A,b::B,h=>by
  obtain⟨a,A',rfl,e,h'⟩:=cons_inv h;have e1:=addr_of e;have e2:=addr_of hpq
  show cores (if p.addr<a.addr then _ else _)=cores (if q.addr<b.addr then _ else _)
  rw[e1,e2]
  split
  ·show p.core::a.core::cores A'=q.core::b.core::cores B
   rw[hpq,e,h']
  ·show a.core::cores (insPg p A')=b.core::cores (insPg q B)
   rw[e,ins hpq h']
theorem del(x:Int):∀ {A B:List Pg},cores A=cores B→cores (delPg x A)=cores (delPg x B)
 |A,[],h=>by rw[nil_inv h]
 |A,b::B,h=>by
  obtain⟨a,A',rfl,e,h'⟩:=cons_inv h;have e1:=addr_of e;have ih:=del x h';unfold delPg at ih⊢;rw[List.filter_cons,List.filter_cons,e1]
  split
  ·show a.core::cores _=b.core::cores _
   rw[e,ih]
  ·exact ih
theorem set_core(x v:Int){p q:Pg}(h:p.core=q.core):(setPg x v p).core=(setPg x v q).core:=by
 have h1:=addr_of h;have h2:p.perm=q.perm:=congrArg (fun c=>c.2.1) h;have h3:p.bytes=q.bytes:=congrArg (fun c=>c.2.2) h;unfold setPg Pg.core;rw[h1]
 split
 ·first|(simp only[h2,h3];done)|(simp only[h1,h2,h3];done)
 ·first|exact h|(simp only[h2,h3];done)
theorem set(x v:Int):∀ {A B:List Pg},cores A=cores B→cores (setByte A x v)=cores (setByte B x v)
 |A,[],h=>by rw[nil_inv h]
 |A,b::B,h=>by
  obtain⟨a,A',rfl,e,h'⟩:=cons_inv h
  show(setPg x v a).core::cores (setByte A' x v)=(setPg x v b).core::cores (setByte B x v)
  rw[set_core x v e,set x v h']
theorem put(addr:Int)(xs:List Int){A B:List Pg}(h:cores A=cores B):∀k,cores (putN A addr xs k)=cores (putN B addr xs k)
 |0=>h
 |k+1=>set _ _ (put addr xs h k)
theorem putA{A B:List Pg}(h:cores A=cores B)(addr need:Int)(s:ByteArray):cores (Sp.putA A addr need s)=cores (Sp.putA B addr need s):=by
 unfold Sp.putA;rw[fitsB h]
 split
 ·exact put _ _ h _
 ·exact h
theorem mapA{A B:List Pg}(h:cores A=cores B)(addr:Int)(b c:Nat)(perm:Int):cores (Sp.mapA A addr b perm)=cores (Sp.mapA B addr c perm):=by
 unfold Sp.mapA;rw[mapE h]
 split
 ·exact ins (p:=pgNew addr b perm) (q:=pgNew addr c perm) rfl h
 ·exact h
theorem unmapA{A B:List Pg}(h:cores A=cores B)(addr:Int):cores (Sp.unmapA A addr)=cores (Sp.unmapA B addr):=by
 unfold Sp.unmapA;rw[unmapE h]
 split
 ·exact del _ h
 ·exact h
end Cor
structure SStep(w w':World)(sb mb:Nat)(A A':List Pg):Prop where
 sp:Spc w' sb mb A'
 mod:Mod (Spc.foot sb mb A) w w'
 foot:∀k,Spc.foot sb mb A' k→Spc.foot sb mb A k∨w.heap.size≤k
namespace Sp
section
variable {w:World} {sb mb:Nat} {A:List Pg}
theorem s_map(h:Spc w sb mb A)(addr perm:Int)(h0:0≤addr)(h1:addr≤4294967295)(p0:0≤perm)(p1:perm≤255):
  Calls Tryz.prog 80 #[.pointer (some ⟨sb,0,none⟩),.int .u32 addr,.int .u8 perm] w fun e w'=>∃blk,e=.returned (.int .i64 (mapE A addr perm))∧SStep w w' sb mb A (mapA A addr blk perm):=
 (map_any h addr perm h0 h1 p0 p1).mono fun e w' ⟨g1,g2,g3⟩=>⟨_,g1,⟨g2,g3.mono fun k _ hk=>.inr (.inl hk),fun k hk=>by
  rcases foot_mapA hk with rfl|g
  ·exact .inr (Nat.le_refl _)
  ·exact .inl g⟩⟩
theorem foot_unmapA{addr:Int}{k:Nat}(h:Spc.foot sb mb (unmapA A addr) k):Spc.foot sb mb A k:=by
 unfold unmapA at h
 split at h
 ·rcases h with h|h|⟨p,hp,h⟩
  ·exact .inl h
  ·exact .inr (.inl h)
  ·exact .inr (.inr ⟨p,(mem_delPg.1 hp).1,h⟩)
 ·exact h
theorem s_unmap(h:Spc w sb mb A)(addr:Int)(h0:0≤addr)(h1:addr≤4294967295):
  Calls Tryz.prog 302 #[.pointer (some ⟨sb,0,none⟩),.int .u32 addr] w fun e w'=>e=.returned (.int .i64 (unmapE A addr))∧SStep w w' sb mb A (unmapA A addr):=
 (unmap_any h addr h0 h1).mono fun e w' ⟨g1,g2,g3⟩=>⟨g1,⟨g2,g3.mono fun k _ hk=>.inr (.inl hk),fun k hk=>.inl (foot_unmapA hk)⟩⟩
theorem s_set(h:Spc w sb mb A)(addr:Int)(s:ByteArray)(h0:0≤addr)(h1:addr≤4294967295)(hn:s.size≤140737488355328):
  Calls Tryz.prog 83 #[.pointer (some ⟨sb,0,none⟩),.int .u32 addr,.string s] w fun e w'=>e=.returned (.int .i64 (fitsE A addr s.size 0))∧SStep w w' sb mb A (putA A addr 0 s):=
 (set h addr s h0 h1 hn).mono fun e w' ⟨g1,g2,g3⟩=>⟨g1,⟨g2,g3.mono fun k _ hk=>.inr (.inr hk),fun k hk=>.inl (foot_putA.1 hk)⟩⟩
theorem s_write(h:Spc w sb mb A)(addr:Int)(s:ByteArray)(h0:0≤addr)(h1:addr≤4294967295)(hn:s.size≤140737488355328):
  Calls Tryz.prog 235 #[.pointer (some ⟨sb,0,none⟩),.int .u32 addr,.string s] w fun e w'=>e=.returned (.int .i64 (fitsE A addr s.size 2))∧SStep w w' sb mb A (putA A addr 2 s):=
 (write h addr s h0 h1 hn).mono fun e w' ⟨g1,g2,g3⟩=>⟨g1,⟨g2,g3.mono fun k _ hk=>.inr (.inr hk),fun k hk=>.inl (foot_putA.1 hk)⟩⟩
end
end Sp
structure Pair(w:World)(sb mb:Nat)(A:List Pg)(rb:Nat)(lv:Value)(R:List Rp):Prop where
 sp:Spc w sb mb A
 rp:Rsp w rb lv R
 apart:∀k,Spc.foot sb mb A k→¬Rsp.foot rb lv R k
theorem Rsp.keep{w w':World}{rb:Nat}{lv:Value}{R:List Rp}{F:Nat→Prop}(h:Rsp w rb lv R)(hm:Mod F w w')(hf:∀k,Rsp.foot rb lv R k→¬F k):Rsp w' rb lv R:=h.frame fun k hk=>hm.block k (h.lt hk) (hf k hk)
section
variable {w w':World} {sb mb rb:Nat} {A A':List Pg} {lv lv':Value} {R R':List Rp}
theorem Pair.below(h:Pair w sb mb A rb lv R)(hb:Below w.heap.size w w'):Pair w' sb mb A rb lv R:=⟨h.sp.below hb fun _ hk=>h.sp.lt hk,h.rp.same hb,h.apart⟩
theorem Pair.left(h:Pair w sb mb A rb lv R)(s:SStep w w' sb mb A A'):Pair w' sb mb A' rb lv R:=
 ⟨s.sp,h.rp.keep s.mod fun k hk g=>h.apart k g hk,fun k hk g=>by
  rcases s.foot k hk with q|q
  ·exact h.apart k q g
  ·have:=h.rp.lt g;omega⟩
theorem Pair.right(h:Pair w sb mb A rb lv R)(s:RStep w w' rb lv R lv' R'):Pair w' sb mb A rb lv' R':=
 ⟨h.sp.keep s.mod fun k hk g=>h.apart k hk g,s.sp,fun k hk g=>by
  rcases s.foot k g with q|q
  ·exact h.apart k hk q
  ·have:=h.sp.lt hk;omega⟩
end
namespace Kp
open Sp
structure Ok(A:List Pg):Prop where
 ok:∀p,p∈A→p.ok
 up:A.Pairwise fun p q=>p.addr<q.addr
end Kp
end Go.Proofs.YtnpicaigdfnmfaaGreat
namespace Go.Proofs.YtnpicaigdfnmfaaGreat.Word
open Go.RowKit
def getV:List Int→Int
 | []=>0
 |x::xs=>x+256*getV xs
theorem getV_snoc(l:List Int)(y:Int):getV (l++[y])=getV l+y*256 ^ l.length:=by
 induction l with
 |nil=>simp[getV]
 |cons x xs ih=>
  simp only[List.cons_append,getV,ih,List.length_cons,Int.pow_succ];rw[Int.mul_add,Int.add_assoc,Int.mul_left_comm,Int.mul_comm 256 (256 ^ xs.length)]
theorem getV_bd(l:List Int)(h:∀x,x∈l→0≤x∧x<256):0≤getV l∧getV l<256 ^ l.length:=by
 induction l with
 |nil=>simp[getV]
 |cons x xs ih=>
  have h1:=h x (by simp);have h2:=ih fun y hy=>h y (by simp[hy])
  simp only[getV,List.length_cons,Int.pow_succ];omega
theorem or_join(k:Nat)(a y:Int)(hk:k<4)(a0:0≤a)(a1:a<256 ^ k)(y0:0≤y)(y1:y<256):
  bits .or .u32 a (y % 4294967296*2 ^ (8*k) % 4294967296)=a+y*256 ^ k:=by
 have e:y % 4294967296*2 ^ (8*k) % 4294967296=y*2 ^ (8*k):=by
  have:k=0∨k=1∨k=2∨k=3:=by omega
  rcases this with rfl|rfl|rfl|rfl<;>simp<;>omega
 have e2:(256:Int) ^ k=2 ^ (8*k):=by rw[Int.pow_mul];rfl
 rw[e,e2];rw[e2] at a1;obtain⟨a,rfl⟩:=Int.eq_ofNat_of_zero_le a0;obtain⟨y,rfl⟩:=Int.eq_ofNat_of_zero_le y0;have hp:((2:Int) ^ (8*k))=((2 ^ (8*k):Nat):Int):=by simp
 rw[hp] at a1⊢;have a1':a<2 ^ (8*k):=by exact_mod_cast a1
 rw[←Int.natCast_mul,u32_or_nat a (y*2 ^ (8*k))]
 ·have hj:=nat_join (8*k) (y*2 ^ (8*k)) a (Nat.mul_mod_left _ _) a1';rw[Nat.or_comm,hj,←Int.natCast_add,Nat.add_comm]
 ·have:k=0∨k=1∨k=2∨k=3:=by omega
  rcases this with rfl|rfl|rfl|rfl<;>simp at a1'<;>omega
 ·have:k=0∨k=1∨k=2∨k=3:=by omega
  rcases this with rfl|rfl|rfl|rfl<;>simp<;>omega
theorem take_succ_nums(s:ByteArray)(k:Nat)(hk:k<s.size):(nums s).take (k+1)=(nums s).take k++[((s[k]'hk).toNat:Int)]:=by
 have hl:k<(nums s).length:=by rw[nums_length];exact hk
 rw[List.take_succ_eq_append_getElem hl]
 congr 2
 have:=nums_get s k hk;rw[this,List.getD,Zg hl];rfl
theorem get_next(s:ByteArray)(k:Nat)(x:Int)(hk:k<s.size)(h4:s.size≤4)(hx:x=getV ((nums s).take k)):
  bits .or .u32 x (((s[k]'hk).toNat:Int) % 4294967296*2 ^ (8*k) % 4294967296)=getV ((nums s).take (k+1)):=by
 have hb:=getV_bd ((nums s).take k) fun y hy=>nums_bd s y (List.mem_of_mem_take hy)
 have hl:((nums s).take k).length=k:=by rw[List.length_take,nums_length];omega
 rw[hl] at hb;rw[take_succ_nums s k hk,getV_snoc,hl,←hx];rw[←hx] at hb;have hy:=(s[k]'hk).toNat_lt;exact or_join k x _ (by omega) hb.1 hb.2 (by omega) (by omega)
theorem getV_take_bd(s:ByteArray)(k:Nat)(h4:s.size≤4):0≤getV ((nums s).take k)∧getV ((nums s).take k)≤4294967295:=by
 have hb:=getV_bd ((nums s).take k) fun y hy=>nums_bd s y (List.mem_of_mem_take hy)
 have hl:((nums s).take k).length≤4:=by rw[List.length_take,nums_length];omega
 generalize ((nums s).take k).length=n at hb hl;have:n=0∨n=1∨n=2∨n=3∨n=4:=by omega
 rcases this with rfl|rfl|rfl|rfl|rfl<;>simp at hb<;>omega
end Go.Proofs.YtnpicaigdfnmfaaGreat.Word
namespace Go.Proofs.YtnpicaigdfnmfaaGreat.Word
open Go.RowKit
def one(c:Bool):Int:=if c then 1 else 0
def divu(a b:Int):Int:=if b=0 then 4294967295 else a / b
def remu(a b:Int):Int:=if b=0 then a else a % b
theorem divu_ne(a b:Int)(h:¬b=0):divu a b=a / b:=by unfold divu;rw[if_neg h]
theorem remu_ne(a b:Int)(h:¬b=0):remu a b=a % b:=by unfold remu;rw[if_neg h]
def opv(fn a b:Int):Int:=
 match fn with
 |1=>(a+b) % 4294967296
 |2=>(a - b) % 4294967296
 |3=>a*b % 4294967296
 |4=>divu a b
 |5=>remu a b
 |6=>bits .and .u32 a b
 |7=>bits .or .u32 a b
 |8=>bits .xor .u32 a b
 |9=>a*2 ^ (b % 32).toNat % 4294967296
 |10=>a / 2 ^ (b % 32).toNat
 |11=>wrap32 a / 2 ^ (b % 32).toNat % 4294967296
 |12=>one (decide (wrap32 a<wrap32 b))
 |13=>one (decide (a<b))
 |14=>one (a == b)
 |_=>0
def ope(fn:Int):Int:=if 1≤fn∧fn≤14 then 0 else 2
theorem ope_high(fn:Int)(h:15≤fn):ope fn=2:=by unfold ope;rw[if_neg (by omega)]
theorem opv_high(fn a b:Int)(h:15≤fn):opv fn a b=0:=by
 unfold opv
 split<;>first|omega|rfl
end Go.Proofs.YtnpicaigdfnmfaaGreat.Word
namespace Go.Proofs.YtnpicaigdfnmfaaGreat.Word
open Go.RowKit
theorem text(b len cap:Nat)(xs:List Int)(hlen:xs.length=len)(w:World)(hc:∀i,i<len→w.cell? ⟨b,0+i,none⟩=some (.int .u8 (xs.getD i 0))):
  Calls Tryz.prog 338 #[.slice (some ⟨b,0,none⟩) len cap] w fun e w'=>e=.returned (.string (strOfNums xs))∧w=w':=by
 have h:=run_convert_bytes_arg (P:=Tryz.prog) w 43 5 Tryz.underlying43 Tryz.underlying5 b 0 len cap xs hlen hc 9 Tryz.underlying9;clear hc;go_enter func338,ntmps338;go_wp2;go_ret;exact⟨rfl,rfl⟩
def putL(v:Int):List Int:=[v % 256,v / 256 % 256,v / 65536 % 256,v / 16777216]
def putS(v:Int)(n:Nat):ByteArray:=strOfNums ((putL v).take n)
theorem put1_ok(v:Int)(h0:0≤v)(h1:v≤4294967295)(hl:(v / 256 != 0)=false)(w:World):
  Calls Tryz.prog 336 #[.int .u32 v,.int .i64 1] w fun e w'=>e=.returned (.tuple #[.string (putS v 1),.int .i64 0])∧Below w.heap.size w w':=by
 have hc:∀i,i<1→(w.alloc (.cells #[.int .u8 (v % 256),.int .u8 (v / 256 % 256),.int .u8 (v / 65536 % 256),.int .u8 (v / 16777216)] 5)).cell? ⟨w.heap.size,0+i,none⟩=some (.int .u8 (((putL v).take 1).getD i 0)):=by
  intro i hi;rw[cells4];have:i=0∨i=1∨i=2∨i=3:=by omega
  rcases this with rfl|rfl|rfl|rfl<;>first|omega|rfl
 have H:=Lh hc;clear hc;go_enter func336,ntmps336;go_wp2_with (go_at_call 338;refine(text _ 1 4 ((putL v).take 1) rfl _ H.out).mono ?_;rintro e w1 ⟨rfl,rfl⟩);go_ret2;exact⟨rfl,by repeat (first|exact Below.refl _ _|apply Below.drew|refine Below.setCell ?_ (by simp) _|refine Below.alloc ?_ (by simp) _)⟩
theorem put4_ok(v:Int)(h0:0≤v)(h1:v≤4294967295)(w:World):
  Calls Tryz.prog 336 #[.int .u32 v,.int .i64 4] w fun e w'=>e=.returned (.tuple #[.string (putS v 4),.int .i64 0])∧Below w.heap.size w w':=by
 have hc:∀i,i<4→(w.alloc (.cells #[.int .u8 (v % 256),.int .u8 (v / 256 % 256),.int .u8 (v / 65536 % 256),.int .u8 (v / 16777216)] 5)).cell? ⟨w.heap.size,0+i,none⟩=some (.int .u8 (((putL v).take 4).getD i 0)):=by
  intro i hi;rw[cells4];have:i=0∨i=1∨i=2∨i=3:=by omega
  rcases this with rfl|rfl|rfl|rfl<;>first|omega|rfl
 have H:=Lh hc;clear hc;go_enter func336,ntmps336;go_wp2_with (go_at_call 338;refine(text _ 4 4 ((putL v).take 4) rfl _ H.out).mono ?_;rintro e w1 ⟨rfl,rfl⟩);go_ret2;exact⟨rfl,by repeat (first|exact Below.refl _ _|apply Below.drew|refine Below.setCell ?_ (by simp) _|refine Below.alloc ?_ (by simp) _)⟩
end Go.Proofs.YtnpicaigdfnmfaaGreat.Word
namespace Go.Proofs.YtnpicaigdfnmfaaGreat
open Go.RowKit Word
structure Ins where
 op:Int
 d:Int
 a:Int
 b:Int
 imm:Int
namespace Ins
structure ok(x:Ins):Prop where
 o0:0≤x.op
 o1:x.op≤255
 d0:0≤x.d
 d1:x.d≤255
 a0:0≤x.a
 a1:x.a≤255
 b0:0≤x.b
 b1:x.b≤255
 i0:0≤x.imm
 i1:x.imm≤4294967295
def val(x:Ins):Value:=.agg #[.int .u8 x.op,.int .u8 x.d,.int .u8 x.a,.int .u8 x.b,.int .u32 x.imm]
def nix:Ins:=⟨0,0,0,0,0⟩
def usesV(op:Int):Int:=
 if 1≤op∧op≤14 then 7
 else if op=17∨op=19∨op=22∨op=23∨op=24∨op=25∨op=26∨op=29∨op=30∨op=33∨op=34 then 11
 else if op=32∨op=41 then 9
 else if op=35∨op=36∨op=43∨op=44∨op=45∨op=46 then 14
 else if op=40∨op=50 then 8
 else if op=42 then 2
 else 0
theorem usesV_bd(op:Int):0≤usesV op∧usesV op≤255:=by
 unfold usesV
 repeat' split
 all_goals exact⟨by omega,by omega⟩
def hasV(op bit:Int):Bool:=bits .and .u8 (usesV op) bit != 0
def fitV(n:Int)(uses:Bool):Bool:=n == 0||(uses&&decide (n<16))
def mayV(x:Ins):Bool:=usesV x.op != 0&&fitV x.d (hasV x.op 1)&&fitV x.a (hasV x.op 2)&&fitV x.b (hasV x.op 4)&&(hasV x.op 8||x.imm == 0)
theorem fit_lt{n:Int}{u:Bool}(h:fitV n u=true)(h0:0≤n):n<16:=by
 unfold fitV at h;simp only[Bool.or_eq_true,Bool.and_eq_true,decide_eq_true_eq,beq_iff_eq] at h;omega
structure small(x:Ins):Prop where
 d0:0≤x.d
 d1:x.d<16
 a0:0≤x.a
 a1:x.a<16
 b0:0≤x.b
 b1:x.b<16
theorem may_small{x:Ins}(h:mayV x=true)(hx:x.ok):x.small:=by
 unfold mayV at h;simp only[Bool.and_eq_true] at h;exact⟨hx.d0,fit_lt h.1.1.1.2 hx.d0,hx.a0,fit_lt h.1.1.2 hx.a0,hx.b0,fit_lt h.1.2 hx.b0⟩
theorem may_op{x:Ins}(h:mayV x=true):usesV x.op≠0:=by
 unfold mayV at h;simp only[Bool.and_eq_true] at h
 simpa using h.1.1.1.1
def encL(x:Ins):List Int:=[x.op,x.d+16*x.a,x.b,0]++putL x.imm
def encE(x:Ins):Int:=if mayV x then 0 else 2
def encS(x:Ins):ByteArray:=if mayV x then strOfNums (encL x) else ByteArray.empty
def decI(s:ByteArray):Ins:=⟨(nums s).getD 0 0,(nums s).getD 1 0 % 16,(nums s).getD 1 0 / 16,(nums s).getD 2 0,getV ((nums s).drop 4)⟩
def decB(s:ByteArray):Bool:=s.size == 8&&(nums s).getD 3 0 == 0&&mayV (decI s)
def decE(s:ByteArray):Int:=if decB s then 0 else 7
def decX(s:ByteArray):Ins:=if decB s then decI s else nix
theorem eight{s:ByteArray}(h:s.size=8):∃a b c d e f g k:Int,nums s=[a,b,c,d,e,f,g,k]∧(0≤a∧a<256)∧(0≤b∧b<256)∧(0≤c∧c<256)∧(0≤d∧d<256)∧(0≤e∧e<256)∧(0≤f∧f<256)∧(0≤g∧g<256)∧(0≤k∧k<256):=by
 have hl:(nums s).length=8:=by rw[nums_length,h]
 have hb:=nums_bd s
 match hn:nums s,hl with
 | [a,b,c,d,e,f,g,k],_=>
  rw[hn] at hb;exact⟨a,b,c,d,e,f,g,k,rfl,hb a (by simp),hb b (by simp),hb c (by simp),hb d (by simp),hb e (by simp),hb f (by simp),hb g (by simp),hb k (by simp)⟩
theorem decI_ok{s:ByteArray}(h:s.size=8):(decI s).ok:=by
 obtain⟨a,b,c,d,e,f,g,k,hn,ha,hb,hc,hd,he,hf,hg,hk⟩:=eight h;unfold decI;rw[hn];simp only[List.getD,List.getElem?_cons_zero,List.getElem?_cons_succ,Option.getD_some,List.drop_succ_cons,List.drop_zero,getV]
 constructor<;>simp only<;>omega
theorem decB_size{s:ByteArray}(h:decB s=true):s.size=8:=by
 unfold decB at h;simp only[Bool.and_eq_true,beq_iff_eq] at h;exact h.1.1
theorem decB_may{s:ByteArray}(h:decB s=true):mayV (decI s)=true:=by
 unfold decB at h;simp only[Bool.and_eq_true] at h;exact h.2
theorem encL_len(x:Ins):(encL x).length=8:=rfl
end Ins
open Go.RowKit Word
namespace Cp
structure Regs(r:List Int):Prop where
 len:r.length=16
 bd:∀x,x∈r→0≤x∧x≤4294967295
def rg(r:List Int)(n:Int):Int:=r.getD n.toNat 0
theorem rg_bd{r:List Int}(h:Regs r)(n:Int):0≤rg r n∧rg r n≤4294967295:=by
 unfold rg
 by_cases hn:n.toNat<r.length
 ·rw[List.getD,Zg hn];exact h.bd _ (List.getElem_mem hn)
 ·rw[List.getD,List.getElem?_eq_none (by omega)];exact⟨by simp,by simp⟩
def putG(r:List Int)(n v:Int):List Int:=if n=0 then r else r.set n.toNat v
theorem opv_bd(fn a b:Int)(a0:0≤a)(a1:a≤4294967295)(b0:0≤b)(b1:b≤4294967295):0≤opv fn a b∧opv fn a b≤4294967295:=by
 have bb:∀o,0≤bits o .u32 a b∧bits o .u32 a b≤4294967295:=fun o=>bits_within o .u32 a b
 have oo:∀c,0≤Word.one c∧Word.one c≤4294967295:=fun c=>by unfold Word.one;split<;>exact⟨by omega,by omega⟩
 unfold opv
 split
 ·omega
 ·omega
 ·omega
 ·unfold divu
  split
  ·omega
  ·rename_i h
   exact⟨Int.ediv_nonneg a0 b0,Int.le_trans (Int.ediv_le_self _ a0) a1⟩
 ·unfold remu
  split
  ·omega
  ·rename_i h
   have:=Int.emod_nonneg a h;have:=Int.emod_lt_of_pos a (show 0<b by omega);omega
 ·exact bb _
 ·exact bb _
 ·exact bb _
 ·omega
 ·exact⟨Int.ediv_nonneg a0 (Int.le_of_lt (Int.pow_pos (by omega))),Int.le_trans (Int.ediv_le_self _ a0) a1⟩
 ·omega
 ·exact oo _
 ·exact oo _
 ·exact oo _
 ·omega
structure Out where
 kind:Int
 num:Int
 why:Int
 r:List Int
 pc:Int
 A:List Pg
def Out.stop(o:Out):Value:=.agg #[.int .u8 o.kind,.int .u32 o.num,.int .i64 o.why]
def next(pc:Int):Int:=(pc+8) % 4294967296
def faults(A:List Pg)(r:List Int)(pc why:Int):Out:=⟨2,0,why,r,pc,A⟩
def goes(A:List Pg)(r:List Int)(pc:Int):Out:=⟨0,0,0,r,pc,A⟩
def addr(r:List Int)(x:Ins):Int:=(rg r x.a+x.imm) % 4294967296
def loads(A:List Pg)(r:List Int)(pc:Int)(x:Ins)(n:Nat):Out:=
 if Sp.fitsB A (addr r x) n 1 then goes A (putG r x.d (getV (Sp.getL A (addr r x) n))) (next pc) else faults A r pc 50
def stores(A:List Pg)(r:List Int)(pc:Int)(x:Ins)(n:Nat):Out:=
 if Sp.fitsB A (addr r x) n 2 then goes (putN A (addr r x) ((putL (rg r x.b)).take n) n) r (next pc) else faults A r pc 50
def br(c:Bool)(a b:Int):Int:=if c then a else b
def exe(A:List Pg)(r:List Int)(pc:Int)(x:Ins):Out:=
 if x.op≤14 then goes A (putG r x.d (opv x.op (rg r x.a) (rg r x.b))) (next pc)
 else if x.op≤30 then goes A (putG r x.d (opv (x.op - 16) (rg r x.a) x.imm)) (next pc)
 else if x.op=32 then goes A (putG r x.d x.imm) (next pc)
 else if x.op=33 then loads A r pc x 1
 else if x.op=34 then loads A r pc x 4
 else if x.op=35 then stores A r pc x 1
 else if x.op=36 then stores A r pc x 4
 else if x.op=40 then goes A r x.imm
 else if x.op=41 then goes A (putG r x.d (next pc)) x.imm
 else if x.op=42 then goes A r (rg r x.a)
 else if x.op=43 then goes A r (br (rg r x.a == rg r x.b) x.imm (next pc))
 else if x.op=44 then goes A r (br (rg r x.a != rg r x.b) x.imm (next pc))
 else if x.op=45 then goes A r (br (decide (rg r x.a<rg r x.b)) x.imm (next pc))
 else if x.op=46 then goes A r (br (decide (rg r x.b≤rg r x.a)) x.imm (next pc))
 else⟨1,x.imm,0,r,next pc,A⟩
def stp(A:List Pg)(r:List Int)(pc:Int):Out:=
 if Sp.fitsB A pc 8 4 then
  (if Ins.decB (strOfNums (Sp.getL A pc 8)) then exe A r pc (Ins.decI (strOfNums (Sp.getL A pc 8))) else faults A r pc 7)
 else faults A r pc 50
def run(A:List Pg)(r:List Int)(pc:Int):Nat→Out×Nat
 |0=>(goes A r pc,0)
 |n+1=>
  let o:=stp A r pc
  if o.kind=0 then(let q:=run o.A o.r o.pc n;(q.1,q.2+1)) else if o.kind=2 then(o,0) else(o,1)
end Cp
open Go.RowKit Word
namespace Cp
structure Like(o p:Out):Prop where
 kind:o.kind=p.kind
 num:o.num=p.num
 why:o.why=p.why
 r:o.r=p.r
 pc:o.pc=p.pc
 cores:cores o.A=Go.Proofs.YtnpicaigdfnmfaaGreat.cores p.A
theorem Like.stop{o p:Out}(h:Like o p):o.stop=p.stop:=by unfold Out.stop;rw[h.kind,h.num,h.why]
section
variable {A B:List Pg} (h:cores A=cores B) (r:List Int) (pc:Int)
include h
theorem like_goes:Like (goes A r pc) (goes B r pc):=⟨rfl,rfl,rfl,rfl,rfl,h⟩
theorem like_faults(why:Int):Like (faults A r pc why) (faults B r pc why):=⟨rfl,rfl,rfl,rfl,rfl,h⟩
theorem like_loads(x:Ins)(n:Nat):Like (loads A r pc x n) (loads B r pc x n):=by
 unfold loads;rw[Cor.fitsB h,Cor.getL h]
 split
 ·exact like_goes h _ _
 ·exact like_faults h _ _ _
theorem like_stores(x:Ins)(n:Nat):Like (stores A r pc x n) (stores B r pc x n):=by
 unfold stores;rw[Cor.fitsB h]
 split
 ·exact⟨rfl,rfl,rfl,rfl,rfl,Cor.put _ _ h _⟩
 ·exact like_faults h _ _ _
theorem like_exe(x:Ins):Like (exe A r pc x) (exe B r pc x):=by
 unfold exe
 by_cases c0:x.op≤14
 ·rw[if_pos c0,if_pos c0];exact like_goes h _ _
 rw[if_neg c0,if_neg c0]
 by_cases c1:x.op≤30
 ·rw[if_pos c1,if_pos c1];exact like_goes h _ _
 rw[if_neg c1,if_neg c1]
 by_cases c2:x.op=32
 ·rw[if_pos c2,if_pos c2];exact like_goes h _ _
 rw[if_neg c2,if_neg c2]
 by_cases c3:x.op=33
 ·rw[if_pos c3,if_pos c3];exact like_loads h _ _ _ _
 rw[if_neg c3,if_neg c3]
 by_cases c4:x.op=34
 ·rw[if_pos c4,if_pos c4];exact like_loads h _ _ _ _
 rw[if_neg c4,if_neg c4]
 by_cases c5:x.op=35
 ·rw[if_pos c5,if_pos c5];exact like_stores h _ _ _ _
 rw[if_neg c5,if_neg c5]
 by_cases c6:x.op=36
 ·rw[if_pos c6,if_pos c6];exact like_stores h _ _ _ _
 rw[if_neg c6,if_neg c6]
 by_cases c7:x.op=40
 ·rw[if_pos c7,if_pos c7];exact like_goes h _ _
 rw[if_neg c7,if_neg c7]
 by_cases c8:x.op=41
 ·rw[if_pos c8,if_pos c8];exact like_goes h _ _
 rw[if_neg c8,if_neg c8]
 by_cases c9:x.op=42
 ·rw[if_pos c9,if_pos c9];exact like_goes h _ _
 rw[if_neg c9,if_neg c9]
 by_cases c10:x.op=43
 ·rw[if_pos c10,if_pos c10];exact like_goes h _ _
 rw[if_neg c10,if_neg c10]
 by_cases c11:x.op=44
 ·rw[if_pos c11,if_pos c11];exact like_goes h _ _
 rw[if_neg c11,if_neg c11]
 by_cases c12:x.op=45
 ·rw[if_pos c12,if_pos c12];exact like_goes h _ _
 rw[if_neg c12,if_neg c12]
 by_cases c13:x.op=46
 ·rw[if_pos c13,if_pos c13];exact like_goes h _ _
 rw[if_neg c13,if_neg c13];exact⟨rfl,rfl,rfl,rfl,rfl,h⟩
theorem like_stp:Like (stp A r pc) (stp B r pc):=by
 unfold stp;rw[Cor.fitsB h,Cor.getL h]
 repeat' split
 ·exact like_exe h _ _ _
 ·exact like_faults h _ _ _
 ·exact like_faults h _ _ _
end
theorem next_bd(pc:Int):0≤next pc∧next pc≤4294967295:=by unfold next;omega
theorem byteAt_bd{A:List Pg}(hok:∀p,p∈A→p.ok)(x:Int):0≤Sp.byteAt A x∧Sp.byteAt A x<256:=by
 unfold Sp.byteAt;cases hp:pageAt A x with
 |none=>simp
 |some p=>
  have hm:=(atAddr_mem hp).1;have h:=hok p hm;have:(x % 256).toNat<p.bytes.length:=by rw[h.len];omega
  show 0≤p.bytes.getD (x % 256).toNat 0∧p.bytes.getD (x % 256).toNat 0<256
  rw[List.getD,Zg this];exact h.bd _ (List.getElem_mem this)
theorem getL_bd{A:List Pg}(hok:∀p,p∈A→p.ok)(x:Int)(n:Nat):∀y,y∈Sp.getL A x n→0≤y∧y<256:=by
 intro y hy;unfold Sp.getL at hy;obtain⟨k,_,rfl⟩:=List.mem_map.1 hy;exact byteAt_bd hok _
theorem getV_small{l:List Int}(h:∀x,x∈l→0≤x∧x<256)(hl:l.length≤4):0≤getV l∧getV l≤4294967295:=by
 have:=getV_bd l h;have e:(256:Int) ^ l.length≤4294967296:=by
  have:l.length=0∨l.length=1∨l.length=2∨l.length=3∨l.length=4:=by omega
  rcases this with g|g|g|g|g<;>rw[g]<;>decide
 omega
end Cp
open Go.RowKit Word
namespace Cp
def cells(r:List Int)(pc:Int):Array Value:=(r.map (Value.int .u32)++[Value.int .u32 pc]).toArray
end Cp
structure Cpu(t:TypeId)(w:World)(cb:Nat)(r:List Int)(pc:Int):Prop where
 blk:w.heap[cb]? =some (.cells (Cp.cells r pc) t (0,0))
 regs:Cp.Regs r
 p0:0≤pc
 p1:pc≤4294967295
namespace Cpu
variable {t:TypeId} {w w':World} {cb:Nat} {r:List Int} {pc:Int}
theorem lt(h:Cpu t w cb r pc):cb<w.heap.size:=lQ h.blk
theorem frame(h:Cpu t w cb r pc)(e:w'.heap[cb]? =w.heap[cb]?):Cpu t w' cb r pc:=⟨e.trans h.blk,h.regs,h.p0,h.p1⟩
theorem below(h:Cpu t w cb r pc)(hb:Below w.heap.size w w'):Cpu t w' cb r pc:=h.frame (hb.block _ h.lt)
theorem keep{F:Nat→Prop}(h:Cpu t w cb r pc)(hm:Mod F w w')(hf:¬F cb):Cpu t w' cb r pc:=h.frame (hm.block _ h.lt hf)
theorem size:(Cp.cells r pc).size=r.length+1:=by simp[Cp.cells]
theorem cellReg(h:Cpu t w cb r pc)(n:Nat)(hn:n<16):w.cell? ⟨cb,n,none⟩=some (.int .u32 (Cp.rg r n)):=by
 unfold World.cell?;rw[h.blk];have hl:=h.regs.len;have:n<r.length:=by omega
 simp[Cp.cells,Cp.rg,List.getElem?_append,this]
theorem cellPc(h:Cpu t w cb r pc):w.cell? ⟨cb,16,none⟩=some (.int .u32 pc):=by
 unfold World.cell?;rw[h.blk];have hl:=h.regs.len;simp[Cp.cells,hl]
theorem thaw(h:Cpu t w cb r pc)(n:Nat):w.frozen? ⟨cb,n,none⟩=false:=by
 unfold World.frozen?;rw[h.blk];rfl
theorem setReg(h:Cpu t w cb r pc)(n:Nat)(hn:n<16)(v:Int)(v0:0≤v)(v1:v≤4294967295):Cpu t (w.setCell ⟨cb,n,none⟩ (.int .u32 v)) cb (r.set n v) pc:=by
 refine⟨?_,⟨by rw[List.length_set,h.regs.len],fun x hx=> ?_⟩,h.p0,h.p1⟩
 ·rw[setCell_eq_setRow _ _ _ _ _ _ _ h.blk];have:=setRow_heap w cb _ ((Cp.cells r pc).setIfInBounds n (.int .u32 v)) _ _ h.blk;rw[this];have hl:=h.regs.len;have hn2:n<r.length:=by omega
  congr 2
  unfold Cp.cells
  apply Array.ext'
  simp only[Array.toList_setIfInBounds];rw[List.set_append_left _ _ (by simpa using hn2),List.map_set]
 ·rcases List.mem_or_eq_of_mem_set hx with g|rfl
  ·exact h.regs.bd x g
  ·exact⟨v0,v1⟩
theorem setPc(h:Cpu t w cb r pc)(v:Int)(v0:0≤v)(v1:v≤4294967295):Cpu t (w.setCell ⟨cb,16,none⟩ (.int .u32 v)) cb r v:=by
 refine⟨?_,h.regs,v0,v1⟩;rw[setCell_eq_setRow _ _ _ _ _ _ _ h.blk];have:=setRow_heap w cb _ ((Cp.cells r pc).setIfInBounds 16 (.int .u32 v)) _ _ h.blk;rw[this];have hl:=h.regs.len
 congr 2
 unfold Cp.cells
 apply Array.ext'
 simp only[Array.toList_setIfInBounds];rw[List.set_append_right _ _ (by simp[hl])];simp[hl]
end Cpu
namespace Cp
theorem putG_nat(r:List Int)(n:Nat)(v:Int)(h:¬n=0):putG r n v=r.set n v:=by
 unfold putG;rw[if_neg (by omega),Int.toNat_natCast]
def PutPost(t:TypeId)(w:World)(cb:Nat)(r:List Int)(pc n v:Int)(e:Ending)(w':World):Prop:=e=.returned (.tuple #[])∧Cpu t w' cb (putG r n v) pc∧Mod (fun k=>k=cb) w w'
theorem put{w:World}{cb:Nat}{r:List Int}{pc:Int}(h:Cpu 155 w cb r pc)(n:Nat)(hn:n<16)(v:Int)(v0:0≤v)(v1:v≤4294967295):
  Calls Tryz.prog 125 #[.pointer (some ⟨cb,0,none⟩),.int .u8 n,.int .u32 v] w (PutPost 155 w cb r pc n v):=by
 by_cases h0:n=0
 ·subst h0;have H:=Lh h;clear h;go_enter func125,ntmps125;go_wp2;go_end0;exact⟨rfl,H.out,Mod.refl _ _⟩
 ·have g0:(0:Int)<n:=by omega
  have g1:(n:Int)<16:=by omega
  have hc:=h.cellReg n hn;have hf:=h.thaw n;have HS:=Lh (h.setReg n hn v v0 v1);rw[←putG_nat r n v h0] at HS;clear h;go_enter func125,ntmps125;go_wp2;go_end0;exact⟨rfl,HS.out,Mod.setCell (F:=fun k=>k=cb) (Mod.refl _ _) _ (.inl rfl) _⟩
end Cp
end Go.Proofs.YtnpicaigdfnmfaaGreat
namespace Go.Proofs.YtnpicaigdfnmfaaGreat.Word
open Go.RowKit
theorem bit(c:Bool)(w:World):Calls Tryz.prog 335 #[.bool c] w fun e w'=>e=.returned (.int .u32 (one c))∧w=w':=by
 cases c
 all_goals
  go_enter func335,ntmps335;go_wp2;go_ret;exact⟨rfl,rfl⟩
theorem add(a b:Int)(h0:0≤a)(h1:a≤4294967295)(h2:0≤b)(h3:b≤4294967295)(w:World):Calls Tryz.prog 312 #[.int .u32 a,.int .u32 b] w fun e w'=>e=.returned (.int .u32 ((a+b) % 4294967296))∧w=w':=by
 go_enter func312,ntmps312;go_wp2;go_ret;exact⟨rfl,rfl⟩
theorem sub(a b:Int)(h0:0≤a)(h1:a≤4294967295)(h2:0≤b)(h3:b≤4294967295)(w:World):Calls Tryz.prog 313 #[.int .u32 a,.int .u32 b] w fun e w'=>e=.returned (.int .u32 ((a - b) % 4294967296))∧w=w':=by
 go_enter func313,ntmps313;go_wp2;go_ret;exact⟨rfl,rfl⟩
theorem mul(a b:Int)(h0:0≤a)(h1:a≤4294967295)(h2:0≤b)(h3:b≤4294967295)(w:World):Calls Tryz.prog 314 #[.int .u32 a,.int .u32 b] w fun e w'=>e=.returned (.int .u32 (a*b % 4294967296))∧w=w':=by
 go_enter func314,ntmps314;go_wp2;go_ret;exact⟨rfl,rfl⟩
theorem div(a b:Int)(h0:0≤a)(h1:a≤4294967295)(h2:0≤b)(h3:b≤4294967295)(w:World):Calls Tryz.prog 315 #[.int .u32 a,.int .u32 b] w fun e w'=>e=.returned (.int .u32 (divu a b))∧w=w':=by
 by_cases hb:b=0
 ·subst hb;go_enter func315,ntmps315;go_wp2;go_ret;exact⟨rfl,rfl⟩
 ·have hv:=Lh (divu_ne a b hb);go_enter func315,ntmps315;go_wp2;go_ret;rw[hv.out];exact⟨rfl,rfl⟩
theorem rem(a b:Int)(h0:0≤a)(h1:a≤4294967295)(h2:0≤b)(h3:b≤4294967295)(w:World):Calls Tryz.prog 316 #[.int .u32 a,.int .u32 b] w fun e w'=>e=.returned (.int .u32 (remu a b))∧w=w':=by
 by_cases hb:b=0
 ·subst hb;go_enter func316,ntmps316;go_wp2;go_ret;exact⟨rfl,rfl⟩
 ·have hv:=Lh (remu_ne a b hb);go_enter func316,ntmps316;go_wp2;go_ret;rw[hv.out];exact⟨rfl,rfl⟩
theorem and(a b:Int)(h0:0≤a)(h1:a≤4294967295)(h2:0≤b)(h3:b≤4294967295)(w:World):Calls Tryz.prog 317 #[.int .u32 a,.int .u32 b] w fun e w'=>e=.returned (.int .u32 (bits .and .u32 a b))∧w=w':=by
 go_enter func317,ntmps317;go_wp2;go_ret;exact⟨rfl,rfl⟩
theorem or(a b:Int)(h0:0≤a)(h1:a≤4294967295)(h2:0≤b)(h3:b≤4294967295)(w:World):Calls Tryz.prog 318 #[.int .u32 a,.int .u32 b] w fun e w'=>e=.returned (.int .u32 (bits .or .u32 a b))∧w=w':=by
 go_enter func318,ntmps318;go_wp2;go_ret;exact⟨rfl,rfl⟩
theorem xor(a b:Int)(h0:0≤a)(h1:a≤4294967295)(h2:0≤b)(h3:b≤4294967295)(w:World):Calls Tryz.prog 319 #[.int .u32 a,.int .u32 b] w fun e w'=>e=.returned (.int .u32 (bits .xor .u32 a b))∧w=w':=by
 go_enter func319,ntmps319;go_wp2;go_ret;exact⟨rfl,rfl⟩
theorem shl(a b:Int)(h0:0≤a)(h1:a≤4294967295)(h2:0≤b)(h3:b≤4294967295)(w:World):Calls Tryz.prog 320 #[.int .u32 a,.int .u32 b] w fun e w'=>e=.returned (.int .u32 (a*2 ^ (b % 32).toNat % 4294967296))∧w=w':=by
 go_enter func320,ntmps320;go_wp2;go_ret;exact⟨rfl,rfl⟩
theorem shr(a b:Int)(h0:0≤a)(h1:a≤4294967295)(h2:0≤b)(h3:b≤4294967295)(w:World):Calls Tryz.prog 321 #[.int .u32 a,.int .u32 b] w fun e w'=>e=.returned (.int .u32 (a / 2 ^ (b % 32).toNat))∧w=w':=by
 go_enter func321,ntmps321;go_wp2;go_ret;exact⟨rfl,rfl⟩
theorem sar(a b:Int)(h0:0≤a)(h1:a≤4294967295)(h2:0≤b)(h3:b≤4294967295)(w:World):Calls Tryz.prog 322 #[.int .u32 a,.int .u32 b] w fun e w'=>e=.returned (.int .u32 (wrap32 a / 2 ^ (b % 32).toNat % 4294967296))∧w=w':=by
 go_enter func322,ntmps322;go_wp2;go_ret;exact⟨rfl,rfl⟩
theorem slt(a b:Int)(h0:0≤a)(h1:a≤4294967295)(h2:0≤b)(h3:b≤4294967295)(w:World):Calls Tryz.prog 323 #[.int .u32 a,.int .u32 b] w fun e w'=>e=.returned (.int .u32 (one (decide (wrap32 a<wrap32 b))))∧w=w':=by
 go_enter func323,ntmps323;go_wp2_with (go_at_call 335;refine(bit _ _).mono ?_;rintro e w' ⟨rfl,rfl⟩);go_ret;exact⟨rfl,rfl⟩
theorem sltu(a b:Int)(h0:0≤a)(h1:a≤4294967295)(h2:0≤b)(h3:b≤4294967295)(w:World):Calls Tryz.prog 324 #[.int .u32 a,.int .u32 b] w fun e w'=>e=.returned (.int .u32 (one (decide (a<b))))∧w=w':=by
 go_enter func324,ntmps324;go_wp2_with (go_at_call 335;refine(bit _ _).mono ?_;rintro e w' ⟨rfl,rfl⟩);go_ret;exact⟨rfl,rfl⟩
theorem seq(a b:Int)(h0:0≤a)(h1:a≤4294967295)(h2:0≤b)(h3:b≤4294967295)(w:World):Calls Tryz.prog 325 #[.int .u32 a,.int .u32 b] w fun e w'=>e=.returned (.int .u32 (one (a == b)))∧w=w':=by
 go_enter func325,ntmps325;go_wp2_with (go_at_call 335;refine(bit _ _).mono ?_;rintro e w' ⟨rfl,rfl⟩);go_ret;exact⟨rfl,rfl⟩
end Go.Proofs.YtnpicaigdfnmfaaGreat.Word
namespace Go.Proofs.YtnpicaigdfnmfaaGreat.Word
open Go.RowKit
theorem nilq(f:Nat)(w:World):(binOp .eql 423 (.func (.func f) #[] #[]) .nilFunc).run Tryz.prog w=.ok (.bool false) w:=by kernel_rfl
theorem nilq0(w:World):(binOp .eql 423 .nilFunc .nilFunc).run Tryz.prog w=.ok (.bool true) w:=by kernel_rfl
theorem op15(fn a b:Int)(hf:15≤fn)(hf2:fn≤255)(h0:0≤a)(h1:a≤4294967295)(h2:0≤b)(h3:b≤4294967295)(w:World):Calls Tryz.prog 284 #[.int .u8 fn,.int .u32 a,.int .u32 b] w fun e w'=>e=.returned (.tuple #[.int .u32 0,.int .i64 2])∧Below w.heap.size w w':=by
 go_enter func284,ntmps284;go_wp2;go_ret2;exact⟨rfl,by repeat (first|exact Below.refl _ _|apply Below.drew|refine Below.setCell ?_ (by simp) _|refine Below.alloc ?_ (by simp) _)⟩
theorem op0(a b:Int)(h0:0≤a)(h1:a≤4294967295)(h2:0≤b)(h3:b≤4294967295)(w:World):Calls Tryz.prog 284 #[.int .u8 0,.int .u32 a,.int .u32 b] w fun e w'=>e=.returned (.tuple #[.int .u32 0,.int .i64 2])∧Below w.heap.size w w':=by
 have hq:=nilq0;go_enter func284,ntmps284;go_wp2;go_ret2;exact⟨rfl,by repeat (first|exact Below.refl _ _|apply Below.drew|refine Below.setCell ?_ (by simp) _|refine Below.alloc ?_ (by simp) _)⟩
theorem op1(a b:Int)(h0:0≤a)(h1:a≤4294967295)(h2:0≤b)(h3:b≤4294967295)(w:World):Calls Tryz.prog 284 #[.int .u8 1,.int .u32 a,.int .u32 b] w fun e w'=>e=.returned (.tuple #[.int .u32 ((a+b) % 4294967296),.int .i64 0])∧Below w.heap.size w w':=by
 have hq:=nilq;go_enter func284,ntmps284;go_wp2_with (go_at_call 312;refine(add _ _ h0 h1 h2 h3 _).mono ?_;rintro e w' ⟨rfl,rfl⟩);go_ret2;exact⟨rfl,by repeat (first|exact Below.refl _ _|apply Below.drew|refine Below.setCell ?_ (by simp) _|refine Below.alloc ?_ (by simp) _)⟩
theorem op2(a b:Int)(h0:0≤a)(h1:a≤4294967295)(h2:0≤b)(h3:b≤4294967295)(w:World):Calls Tryz.prog 284 #[.int .u8 2,.int .u32 a,.int .u32 b] w fun e w'=>e=.returned (.tuple #[.int .u32 ((a - b) % 4294967296),.int .i64 0])∧Below w.heap.size w w':=by
 have hq:=nilq;go_enter func284,ntmps284;go_wp2_with (go_at_call 313;refine(sub _ _ h0 h1 h2 h3 _).mono ?_;rintro e w' ⟨rfl,rfl⟩);go_ret2;exact⟨rfl,by repeat (first|exact Below.refl _ _|apply Below.drew|refine Below.setCell ?_ (by simp) _|refine Below.alloc ?_ (by simp) _)⟩
theorem op3(a b:Int)(h0:0≤a)(h1:a≤4294967295)(h2:0≤b)(h3:b≤4294967295)(w:World):Calls Tryz.prog 284 #[.int .u8 3,.int .u32 a,.int .u32 b] w fun e w'=>e=.returned (.tuple #[.int .u32 (a*b % 4294967296),.int .i64 0])∧Below w.heap.size w w':=by
 have hq:=nilq;go_enter func284,ntmps284;go_wp2_with (go_at_call 314;refine(mul _ _ h0 h1 h2 h3 _).mono ?_;rintro e w' ⟨rfl,rfl⟩);go_ret2;exact⟨rfl,by repeat (first|exact Below.refl _ _|apply Below.drew|refine Below.setCell ?_ (by simp) _|refine Below.alloc ?_ (by simp) _)⟩
theorem op4(a b:Int)(h0:0≤a)(h1:a≤4294967295)(h2:0≤b)(h3:b≤4294967295)(w:World):Calls Tryz.prog 284 #[.int .u8 4,.int .u32 a,.int .u32 b] w fun e w'=>e=.returned (.tuple #[.int .u32 (divu a b),.int .i64 0])∧Below w.heap.size w w':=by
 have hq:=nilq;go_enter func284,ntmps284;go_wp2_with (go_at_call 315;refine(div _ _ h0 h1 h2 h3 _).mono ?_;rintro e w' ⟨rfl,rfl⟩);go_ret2;exact⟨rfl,by repeat (first|exact Below.refl _ _|apply Below.drew|refine Below.setCell ?_ (by simp) _|refine Below.alloc ?_ (by simp) _)⟩
theorem op5(a b:Int)(h0:0≤a)(h1:a≤4294967295)(h2:0≤b)(h3:b≤4294967295)(w:World):Calls Tryz.prog 284 #[.int .u8 5,.int .u32 a,.int .u32 b] w fun e w'=>e=.returned (.tuple #[.int .u32 (remu a b),.int .i64 0])∧Below w.heap.size w w':=by
 have hq:=nilq;go_enter func284,ntmps284;go_wp2_with (go_at_call 316;refine(rem _ _ h0 h1 h2 h3 _).mono ?_;rintro e w' ⟨rfl,rfl⟩);go_ret2;exact⟨rfl,by repeat (first|exact Below.refl _ _|apply Below.drew|refine Below.setCell ?_ (by simp) _|refine Below.alloc ?_ (by simp) _)⟩
theorem op6(a b:Int)(h0:0≤a)(h1:a≤4294967295)(h2:0≤b)(h3:b≤4294967295)(w:World):Calls Tryz.prog 284 #[.int .u8 6,.int .u32 a,.int .u32 b] w fun e w'=>e=.returned (.tuple #[.int .u32 (bits .and .u32 a b),.int .i64 0])∧Below w.heap.size w w':=by
 have hq:=nilq;go_enter func284,ntmps284;go_wp2_with (go_at_call 317;refine(and _ _ h0 h1 h2 h3 _).mono ?_;rintro e w' ⟨rfl,rfl⟩);go_ret2;exact⟨rfl,by repeat (first|exact Below.refl _ _|apply Below.drew|refine Below.setCell ?_ (by simp) _|refine Below.alloc ?_ (by simp) _)⟩
theorem op7(a b:Int)(h0:0≤a)(h1:a≤4294967295)(h2:0≤b)(h3:b≤4294967295)(w:World):Calls Tryz.prog 284 #[.int .u8 7,.int .u32 a,.int .u32 b] w fun e w'=>e=.returned (.tuple #[.int .u32 (bits .or .u32 a b),.int .i64 0])∧Below w.heap.size w w':=by
 have hq:=nilq;go_enter func284,ntmps284;go_wp2_with (go_at_call 318;refine(or _ _ h0 h1 h2 h3 _).mono ?_;rintro e w' ⟨rfl,rfl⟩);go_ret2;exact⟨rfl,by repeat (first|exact Below.refl _ _|apply Below.drew|refine Below.setCell ?_ (by simp) _|refine Below.alloc ?_ (by simp) _)⟩
theorem op8(a b:Int)(h0:0≤a)(h1:a≤4294967295)(h2:0≤b)(h3:b≤4294967295)(w:World):Calls Tryz.prog 284 #[.int .u8 8,.int .u32 a,.int .u32 b] w fun e w'=>e=.returned (.tuple #[.int .u32 (bits .xor .u32 a b),.int .i64 0])∧Below w.heap.size w w':=by
 have hq:=nilq;go_enter func284,ntmps284;go_wp2_with (go_at_call 319;refine(xor _ _ h0 h1 h2 h3 _).mono ?_;rintro e w' ⟨rfl,rfl⟩);go_ret2;exact⟨rfl,by repeat (first|exact Below.refl _ _|apply Below.drew|refine Below.setCell ?_ (by simp) _|refine Below.alloc ?_ (by simp) _)⟩
theorem op9(a b:Int)(h0:0≤a)(h1:a≤4294967295)(h2:0≤b)(h3:b≤4294967295)(w:World):Calls Tryz.prog 284 #[.int .u8 9,.int .u32 a,.int .u32 b] w fun e w'=>e=.returned (.tuple #[.int .u32 (a*2 ^ (b % 32).toNat % 4294967296),.int .i64 0])∧Below w.heap.size w w':=by
 have hq:=nilq;go_enter func284,ntmps284;go_wp2_with (go_at_call 320;refine(shl _ _ h0 h1 h2 h3 _).mono ?_;rintro e w' ⟨rfl,rfl⟩);go_ret2;exact⟨rfl,by repeat (first|exact Below.refl _ _|apply Below.drew|refine Below.setCell ?_ (by simp) _|refine Below.alloc ?_ (by simp) _)⟩
theorem op10(a b:Int)(h0:0≤a)(h1:a≤4294967295)(h2:0≤b)(h3:b≤4294967295)(w:World):Calls Tryz.prog 284 #[.int .u8 10,.int .u32 a,.int .u32 b] w fun e w'=>e=.returned (.tuple #[.int .u32 (a / 2 ^ (b % 32).toNat),.int .i64 0])∧Below w.heap.size w w':=by
 have hq:=nilq;go_enter func284,ntmps284;go_wp2_with (go_at_call 321;refine(shr _ _ h0 h1 h2 h3 _).mono ?_;rintro e w' ⟨rfl,rfl⟩);go_ret2;exact⟨rfl,by repeat (first|exact Below.refl _ _|apply Below.drew|refine Below.setCell ?_ (by simp) _|refine Below.alloc ?_ (by simp) _)⟩
theorem op11(a b:Int)(h0:0≤a)(h1:a≤4294967295)(h2:0≤b)(h3:b≤4294967295)(w:World):Calls Tryz.prog 284 #[.int .u8 11,.int .u32 a,.int .u32 b] w fun e w'=>e=.returned (.tuple #[.int .u32 (wrap32 a / 2 ^ (b % 32).toNat % 4294967296),.int .i64 0])∧Below w.heap.size w w':=by
 have hq:=nilq;go_enter func284,ntmps284;go_wp2_with (go_at_call 322;refine(sar _ _ h0 h1 h2 h3 _).mono ?_;rintro e w' ⟨rfl,rfl⟩);go_ret2;exact⟨rfl,by repeat (first|exact Below.refl _ _|apply Below.drew|refine Below.setCell ?_ (by simp) _|refine Below.alloc ?_ (by simp) _)⟩
theorem op12(a b:Int)(h0:0≤a)(h1:a≤4294967295)(h2:0≤b)(h3:b≤4294967295)(w:World):Calls Tryz.prog 284 #[.int .u8 12,.int .u32 a,.int .u32 b] w fun e w'=>e=.returned (.tuple #[.int .u32 (one (decide (wrap32 a<wrap32 b))),.int .i64 0])∧Below w.heap.size w w':=by
 have hq:=nilq;go_enter func284,ntmps284;go_wp2_with (go_at_call 323;refine(slt _ _ h0 h1 h2 h3 _).mono ?_;rintro e w' ⟨rfl,rfl⟩);go_ret2;exact⟨rfl,by repeat (first|exact Below.refl _ _|apply Below.drew|refine Below.setCell ?_ (by simp) _|refine Below.alloc ?_ (by simp) _)⟩
theorem op13(a b:Int)(h0:0≤a)(h1:a≤4294967295)(h2:0≤b)(h3:b≤4294967295)(w:World):Calls Tryz.prog 284 #[.int .u8 13,.int .u32 a,.int .u32 b] w fun e w'=>e=.returned (.tuple #[.int .u32 (one (decide (a<b))),.int .i64 0])∧Below w.heap.size w w':=by
 have hq:=nilq;go_enter func284,ntmps284;go_wp2_with (go_at_call 324;refine(sltu _ _ h0 h1 h2 h3 _).mono ?_;rintro e w' ⟨rfl,rfl⟩);go_ret2;exact⟨rfl,by repeat (first|exact Below.refl _ _|apply Below.drew|refine Below.setCell ?_ (by simp) _|refine Below.alloc ?_ (by simp) _)⟩
theorem op14(a b:Int)(h0:0≤a)(h1:a≤4294967295)(h2:0≤b)(h3:b≤4294967295)(w:World):Calls Tryz.prog 284 #[.int .u8 14,.int .u32 a,.int .u32 b] w fun e w'=>e=.returned (.tuple #[.int .u32 (one (a == b)),.int .i64 0])∧Below w.heap.size w w':=by
 have hq:=nilq;go_enter func284,ntmps284;go_wp2_with (go_at_call 325;refine(seq _ _ h0 h1 h2 h3 _).mono ?_;rintro e w' ⟨rfl,rfl⟩);go_ret2;exact⟨rfl,by repeat (first|exact Below.refl _ _|apply Below.drew|refine Below.setCell ?_ (by simp) _|refine Below.alloc ?_ (by simp) _)⟩
theorem Op(fn a b:Int)(f0:0≤fn)(f1:fn≤255)(h0:0≤a)(h1:a≤4294967295)(h2:0≤b)(h3:b≤4294967295)(w:World):Calls Tryz.prog 284 #[.int .u8 fn,.int .u32 a,.int .u32 b] w fun e w'=>e=.returned (.tuple #[.int .u32 (opv fn a b),.int .i64 (ope fn)])∧Below w.heap.size w w':=by
 by_cases hf:15≤fn
 ·have e1:opv fn a b=0:=opv_high fn a b hf;have e2:ope fn=2:=ope_high fn hf;rw[e1,e2];exact op15 fn a b hf f1 h0 h1 h2 h3 w
 ·have:fn=0∨fn=1∨fn=2∨fn=3∨fn=4∨fn=5∨fn=6∨fn=7∨fn=8∨fn=9∨fn=10∨fn=11∨fn=12∨fn=13∨fn=14:=by omega
  rcases this with rfl|rfl|rfl|rfl|rfl|rfl|rfl|rfl|rfl|rfl|rfl|rfl|rfl|rfl|rfl
  ·exact op0 a b h0 h1 h2 h3 w
  ·exact op1 a b h0 h1 h2 h3 w
  ·exact op2 a b h0 h1 h2 h3 w
  ·exact op3 a b h0 h1 h2 h3 w
  ·exact op4 a b h0 h1 h2 h3 w
  ·exact op5 a b h0 h1 h2 h3 w
  ·exact op6 a b h0 h1 h2 h3 w
  ·exact op7 a b h0 h1 h2 h3 w
  ·exact op8 a b h0 h1 h2 h3 w
  ·exact op9 a b h0 h1 h2 h3 w
  ·exact op10 a b h0 h1 h2 h3 w
  ·exact op11 a b h0 h1 h2 h3 w
  ·exact op12 a b h0 h1 h2 h3 w
  ·exact op13 a b h0 h1 h2 h3 w
  ·exact op14 a b h0 h1 h2 h3 w
end Go.Proofs.YtnpicaigdfnmfaaGreat.Word
namespace Go.Proofs.YtnpicaigdfnmfaaGreat.Word
open Go.RowKit
def getRel(s:ByteArray)(v i:Value):Prop:=∃(k:Nat) (x:Int),k≤s.size∧i=.int .i64 k∧v=.int .u32 x∧0≤x∧x≤4294967295∧x=getV ((nums s).take k)
theorem get_ok(s:ByteArray)(h1:1≤s.size)(h4:s.size≤4)(w:World):
  Calls Tryz.prog 175 #[.string s] w fun e w'=>e=.returned (.tuple #[.int .u32 (getV (nums s)),.int .i64 0])∧w=w':=by
 go_enter func175,ntmps175;go_wp2;go_loop [2,15,4] (fun v i k=>getRel s v i) (fun _ i _=>s.size - (intOf i).toNat)
 case atStart=>exact⟨0,0,by omega,rfl,rfl,by omega,by omega,rfl⟩
 case round=>
  obtain⟨k,x,hk,rfl,rfl,x0,x1,hx⟩:=hrel
  by_cases hk2:k<s.size
  ·have Hn:=Lh (get_next s k x hk2 h4 hx);have Hb:=Lh (getV_take_bd s (k+1) h4);clear hx;go_wp2;refine⟨⟨k+1,_,by omega,by go_num,rfl, ?_, ?_,Hn.out⟩,by simp[intOf];omega⟩
   ·rw[Hn.out];exact Hb.out.1
   ·rw[Hn.out];exact Hb.out.2
  ·obtain rfl:k=s.size:=by omega
   have Hx:=Lh hx;clear hx;go_wp2;go_ret2;refine⟨ret_ie ?_,rfl⟩;rw[Hx.out,List.take_of_length_le (by rw[nums_length];omega)]
end Go.Proofs.YtnpicaigdfnmfaaGreat.Word
