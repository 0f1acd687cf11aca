/- Sl21, Stp, Env, EnvW, EnvX, Duo, WordBytes, Reg in one text. -/
import Derived.Test.YtnpicaigdfnmfaaGreatPnPag
import Derived.Lib.SliceRun
import Derived.Shelf.RegionOpenPlain
import Derived.Deep.RegionLaw
import Derived.Laws.IdiomCopy
import Derived.Lib.AppendZeros
import Derived.Lib.Overlaps
import Derived.Test.YtnpicaigdfnmfaaGreatPnInsW
import Derived.Deep.MidRow
import Derived.Deep.QuietTactic
import Derived.BigQuiet
import Derived.Test.YtnpicaigdfnmfaaGreatProg
import Derived.LoopTactic
import Derived.Deep.AppendLies
import Derived.WalkSpells
import Derived.WalkLawsBesides
import Derived.OwnWalk
import Derived.Outline
import Derived.Test.YtnpicaigdfnmfaaGreatPnBase
import Derived.Deep.RegionHeld3
import Derived.Test.YtnpicaigdfnmfaaGreatPnZa
set_option linter.unusedVariables false
set_option linter.unusedSimpArgs false
set_option maxRecDepth 100000
set_option maxHeartbeats 16000000
open Go.Proofs.Tryz
namespace Go.Proofs.YtnpicaigdfnmfaaGreat.Sl
open Go.RowKit Pag
def Lst(w:World)(v:Value)(xs:List Int):Prop:=SlV w 42 1 v xs.length (xs.map encU)
theorem Lst.nil(w:World):Lst w (.slice none 0 0) []:=SlV.nil _ _ _
theorem Lst.words{w:World}{v:Value}{xs:List Int}(h:Lst w v xs)(hs:xs.length≤2000000):∃a cap,v=.slice a xs.length cap∧Rs.Words w a xs:=by
 rcases h.2 with⟨h0,a,rfl⟩|⟨g,off,cap,cur,rfl,hg,_,_,_,hc⟩
 ·exact⟨a,0,by rw[h0],fun i hi=>absurd hi (by omega),by omega⟩
 ·refine⟨_,cap,rfl,fun i hi=>⟨g,off,rfl, ?_⟩,by omega⟩;unfold World.cell?;rw[hg];have:=hc i (by omega);rw[List.getElem?_map,Zg hi] at this;exact this
theorem Lst.frame{w w':World}{v:Value}{xs:List Int}(h:Lst w v xs)(hb:∀g,v.ownBlock=some g→w'.heap[g]? =w.heap[g]?):Lst w' v xs:=SlV.keep h hb
theorem Lst.keep{F:Nat→Prop}{w w':World}{v:Value}{xs:List Int}(h:Lst w v xs)(hm:Mod F w w')(hl:∀g,v.ownBlock=some g→g<w.heap.size)(hF:∀g,v.ownBlock=some g→¬F g):Lst w' v xs:=h.frame fun g hg=>hm.block _ (hl g hg) (hF g hg)
structure Place(xs:List Int)(x:Int)(k:Nat):Prop where
 le:k≤xs.length
 lo:∀(j:Nat) (y:Int),j<k→xs[j]? =some y→y<x
 hi:∀(j:Nat) (y:Int),k≤j→xs[j]? =some y→x≤y
def bsRel(w:World)(xs:List Int)(x:Int)(n:Nat)(vi vj:Value)(wr:World):Prop:=
 ∃i j:Nat,i≤j∧j≤n∧vi=.int .i64 i∧vj=.int .i64 j∧(∀(m:Nat) (y:Int),m<i→xs[m]? =some y→y<x)∧(∀(m:Nat) (y:Int),j≤m→xs[m]? =some y→x≤y)∧wr=w
theorem up_at{xs:List Int}(h:xs.Pairwise (·<·)){i j:Nat}(hij:i≤j){x y:Int}(hx:xs[i]? =some x)(hy:xs[j]? =some y):x≤y:=by
 obtain⟨hi,rfl⟩:=List.getElem?_eq_some_iff.1 hx;obtain⟨hj,rfl⟩:=List.getElem?_eq_some_iff.1 hy;rcases Nat.lt_or_ge i j with g|g
 ·exact Int.le_of_lt ((List.pairwise_iff_getElem.1 h) i j hi hj g)
 ·obtain rfl:i=j:=Nat.le_antisymm hij g;exact Int.le_refl _
theorem isNaN(x:Int)(w:World):Calls Tryz.prog 328 #[.int .u32 x] w fun e w'=>e=.returned (.bool false)∧w'=w:=by
 go_enter func328,ntmps328;go_wp2;go_ret;exact⟨rfl,rfl⟩
theorem bsearch{w:World}{a:Option Addr}{cap:Nat}{xs:List Int}(h:Rs.Words w a xs)(x:Int)(hup:xs.Pairwise (·<·))(hs:xs.length≤2000000):
  Calls Tryz.prog 299 #[.slice a xs.length cap,.int .u32 x] w fun e w'=>∃k,Place xs x k∧e=.returned (.tuple #[.int .i64 k,.bool (decide (xs[k]? =some x))])∧w'=w:=by
 have H:=Lh h;have hl:=hs;have Hup:=Lh hup;obtain⟨n,hn⟩:∃n,xs.length=n:=⟨_,rfl⟩;have Hn:=Lh hn;rw[hn] at hl⊢;clear h hn hup hs;go_enter func299,ntmps299;go_wp2;go_loopw [7,8,9] (fun vi vj _ wr=>bsRel w xs x n vi vj wr) (fun vi vj _ _=>(intOf vj).toNat - (intOf vi).toNat)
 case atStart=>exact⟨0,n,Nat.zero_le _,Nat.le_refl _,by go_num,by go_num,fun m y hm _=>absurd hm (Nat.not_lt_zero _),fun m y hm g=>absurd g (by rw[List.getElem?_eq_none (by rw[Hn.out];exact hm)];exact fun e=>(nomatch e)),rfl⟩
 case round=>
  obtain⟨i,j,hij,hjn,rfl,rfl,hlo,hhi,rfl⟩:=hrel;have HLo:=Lh hlo;have HHi:=Lh hhi;clear hlo hhi
  by_cases hlt:i<j
  ·obtain⟨h,hh⟩:∃h,(i+j) / 2=h:=⟨_,rfl⟩;have h1:i≤h:=by omega
   have h2:h<j:=by omega
   have hx:h<xs.length:=by rw[Hn.out];omega
   obtain⟨g,o,rfl,hc⟩:=H.out.cell h hx;have Hx:=Lh (show xs[h]? =some xs[h] from Zg hx);generalize xs[h]=y at*;have hw:((i:Int)+j) / 2=h:=by omega
   clear hx
   by_cases hy:y<x
   ·have hb:Sort.ltInt y x=true:=decide_eq_true hy;go_wp2_with (go_at_call 219;(with_reducible refine(Srt.less _ _ _).mono ?_);rintro e w2 ⟨rfl,rfl⟩);refine⟨⟨h+1,j,by omega,hjn,by go_num,rfl,fun m z hm hz=> ?_,HHi.out,rfl⟩,by simp[intOf];omega⟩;have:=up_at Hup.out (show m≤h by omega) hz Hx.out;omega
   ·have hb:Sort.ltInt y x=false:=decide_eq_false hy;go_wp2_with (go_at_call 219;(with_reducible refine(Srt.less _ _ _).mono ?_);rintro e w2 ⟨rfl,rfl⟩);refine⟨⟨i,h,by omega,by omega,rfl,by go_num,HLo.out,fun m z hm hz=> ?_,rfl⟩,by simp[intOf];omega⟩;have:=up_at Hup.out hm Hx.out hz;omega
  ·obtain rfl:i=j:=by omega
   by_cases hin:i<n
   ·have hx:i<xs.length:=by rw[Hn.out];exact hin
    obtain⟨g,o,rfl,hc⟩:=H.out.cell i hx;have Hx:=Lh (show xs[i]? =some xs[i] from Zg hx);have HP:Hid (Place xs x i):=Lh ⟨Nat.le_of_lt hx,HLo.out,HHi.out⟩;generalize xs[i]=y at*;clear hx
    by_cases hy:y=x
    ·subst hy;have HD:=Lh (decide_eq_true Hx.out);go_wp2;refine bodyPost_ret (v:=.tuple #[.int .i64 i,.bool true]) (by simp[results,Tryz.results299,go_sem, *]) rfl ?_;exact⟨i,HP.out,by rw[HD.out],rfl⟩
    ·have hyb:(y == x)=false:=beq_eq_false_iff_ne.2 hy;have HD:Hid (decide (xs[i]? =some x)=false):=Lh (decide_eq_false (by rw[Hx.out];exact fun e=>hy (Option.some.inj e)));go_wp2_with (go_at_call 328;(with_reducible refine(isNaN _ _).mono ?_);rintro e w2 ⟨rfl,rfl⟩);refine bodyPost_ret (v:=.tuple #[.int .i64 i,.bool false]) (by simp[results,Tryz.results299,go_sem, *]) rfl ?_;exact⟨i,HP.out,by rw[HD.out],rfl⟩
   ·obtain rfl:i=n:=by omega
    have HP:Hid (Place xs x i):=Lh ⟨Nat.le_of_eq Hn.out.symm,HLo.out,HHi.out⟩;have HD:Hid (decide (xs[i]? =some x)=false):=Lh (decide_eq_false (by rw[List.getElem?_eq_none (Nat.le_of_eq Hn.out)];exact fun e=>(nomatch e)));go_wp2;refine bodyPost_ret (v:=.tuple #[.int .i64 i,.bool false]) (by simp[results,Tryz.results299,go_sem, *]) rfl ?_;exact⟨i,HP.out,by rw[HD.out],rfl⟩
theorem delete{w:World}{v:Value}{xs:List Int}(h:Lst w v xs)(k j:Nat)(hj:j=k+1)(hk:k<xs.length)(hs:xs.length≤2000000):
  Calls Tryz.prog 301 #[v,.int .i64 k,.int .i64 j] w fun e w'=>∃v',e=.returned v'∧Lst w' v' (xs.eraseIdx k)∧v'.ownBlock=v.ownBlock∧Mod (fun b=>v.ownBlock=some b) w w':=by
 obtain⟨i0,hi0,hz0,hz1,hz2⟩:=info_parts infoU32;rcases h.2 with⟨h0,_⟩|⟨g,off,cap,cur,rfl,hg,hnc,hcm,hcs,hc⟩
 ·omega
 obtain⟨n,hn⟩:∃n,xs.length=n:=⟨_,rfl⟩;rw[hn] at hk hs hnc hc⊢;obtain⟨news,hnews⟩:∃news,news=(xs.drop j).map encU:=⟨_,rfl⟩;have hlen:news.length=n - j:=by rw[hnews];simp[hn]
 have hcell:∀j,j<n→w.cell? ⟨g,off+j,none⟩=(xs.map encU)[j]? :=fun j hj=>by
  unfold World.cell?;rw[hg];exact hc j (by omega)
 have hsome:∀j,j<n→(w.cell? ⟨g,off+j,none⟩).isSome=true:=fun j hj=>by
  rw[hcell j hj,Zg (by simp[hn];exact hj)];rfl
 have hfree:∀(j:Nat),w.frozen? ⟨g,j,none⟩=false:=fun j=>by
  unfold World.frozen?;rw[hg]
  simp
 obtain⟨A,hA,hsrc⟩:∃A:Addr,(if cap=j then some (⟨g,off,none⟩:Addr) else some ⟨g,off+j,none⟩)=some A∧Hid (∀t u,news[t]? =some u→w.drew.cell? (A.add t)=some u):=by
  by_cases e:cap=j
  ·refine⟨⟨g,off,none⟩,by simp[e],Lh fun t u hu=> ?_⟩;have h0:news.length=0:=by rw[hlen];omega
   rw[List.length_eq_zero_iff.1 h0] at hu;simp at hu
  ·refine⟨⟨g,off+j,none⟩,by simp[e],Lh fun t u hu=> ?_⟩;have ht:t<n - j:=by
    have:=(List.getElem?_eq_some_iff.1 hu).1
    rwa [hlen] at this
   rw[hnews,List.getElem?_map,List.getElem?_drop,←List.getElem?_map,←hcell _ (by omega)] at hu;rw[Addr.add_lit,show off+j+t=off+(j+t) by omega];exact hu
 have s1:Hid (news.length=(n - j)*1):=Lh (by rw[Nat.mul_one];exact hlen);have s2:Hid (∀u∈news,u.oneCell'=true):=Lh fun u hu=>by
  rw[hnews] at hu;obtain⟨x,_,rfl⟩:=List.mem_map.1 hu;rfl
 have s3:Hid (∀t,t<news.length→(w.drew.cell? ⟨g,off+k*1+t,none⟩).isSome=true∧w.drew.frozen? ⟨g,off+k*1+t,none⟩=false):=Lh fun t ht=>by
  rw[hlen] at ht;rw[Nat.mul_one,Nat.add_assoc];exact⟨hsome _ (by omega),hfree _⟩
 obtain⟨W1,hW1⟩:∃W1,W1=w.drew.setCells g (off+k*1) news:=⟨_,rfl⟩;obtain⟨cur1,c1,c2,c3,c4⟩:=heap_setCells_same g 42 news w.drew (off+k*1) cur hg (by rw[hlen];omega);rw[←hW1] at c1;have hcl:∀ty c',(Builtin.clear_ #[41] ty #[.slice (some ⟨g,off+(n - 1),none⟩) 1 c']).run Tryz.prog W1=.ok (.tuple #[]) (W1.setCells g (off+(n - 1)) [.int .u32 0]):=
  fun ty c'=>Lib.run_clear_slice W1 _ _ ty _ Tryz.underlying41 Tryz.zeroValue42 rfl rfl g (off+(n - 1)) 1 _ (by omega) (fun t ht=>by unfold World.cell?;rw[c1];simp[Array.getElem?_eq_getElem (show off+(n - 1)+t<cur1.size by omega)]) (fun t ht=>by unfold World.frozen?;rw[c1];simp)
 obtain⟨cur2,d1,d2,d3,d4⟩:=heap_setCells_same g 42 [.int .u32 0] W1 (off+(n - 1)) cur1 c1 (by simp;omega);have HFin:Hid (Lst (W1.setCells g (off+(n - 1)) [.int .u32 0]) (.slice (some ⟨g,off,none⟩) (n - 1) cap) (xs.eraseIdx k)∧Mod (fun b=>some g=some b) w (W1.setCells g (off+(n - 1)) [.int .u32 0])):=by
  refine Lh ⟨⟨by simp[List.length_eraseIdx,hn,hk],.inr ⟨g,off,cap,cur2, ?_,d1, ?_,hcm,by rw[d2,c2];exact hcs,fun t ht=> ?_⟩⟩, ?_⟩
  ·rw[List.length_eraseIdx,hn,if_pos hk]
  ·rw[List.length_eraseIdx,hn,if_pos hk];omega
  ·rw[List.length_eraseIdx,hn,if_pos hk] at ht;rw[d3 _ (by omega),List.getElem?_map,List.getElem?_eraseIdx]
   by_cases e:t<k
   ·rw[if_pos e,c3 _ (by omega),hc t (by omega),List.getElem?_map]
   ·rw[if_neg e];have:=c4 (t - k) (by rw[hlen];omega);rw[show off+k*1+(t - k)=off+t by omega] at this;rw[this,hnews,List.getElem?_map,List.getElem?_drop,show j+(t - k)=t+1 by omega]
  ·have m1:=mod_setCells g news w.drew (off+k*1);rw[←hW1] at m1;have m2:=mod_setCells g [.int .u32 0] W1 (off+(n - 1));have m0:Mod (fun i=>i=g) w w.drew:=(Mod.refl _ _).drew;exact((m0.same m1).same m2).mono fun i _ hi=>by rw[hi]
 have HW:Hid (W1=w.drew.setCells g (off+k*1) news):=Lh hW1;have hkc:k≤cap:=by omega
 have hkc2:j≤cap:=by omega
 have hjn:j≤n:=by omega
 have hkj:¬((k:Int)=j):=by omega
 have hnk:k+(n - j)=n - 1:=by omega
 have hij:(0:Int)≤j:=by omega
 have hkji:(k:Int)≤j:=by omega
 have hjni:(j:Int)≤n:=by omega
 have mixed:Tryz.prog.follows .mixedOrders=true:=by kernel_rfl
 have hn1:n - (n - 1)=1:=by omega
 have hcm2:cap≤9223372036854775807:=by unfold maxLen at hcm;omega
 clear hW1 c1 c2 c3 c4 d1 d2 d3 d4 hnews hlen hsome hfree hcell hc hg h hn hj;go_enter func301,ntmps301;go_wp2_with fail;go_region_law_o (refine step_append_room rfl (.tmp 22) (.tmp 25) 41 rfl 42 i0 1 Tryz.underlying41 hi0 hz1 g off k cap (by simp[Act.eval,Act.put]) A (n - j) (cap - j) news (by simp[Act.eval,Act.put, *]) s1.out hsrc.out s2.out (by omega) s3.out ?_;rw[←HW.out]);go_wp2;go_ret;exact⟨_,rfl,HFin.out.1,rfl,HFin.out.2⟩
end Go.Proofs.YtnpicaigdfnmfaaGreat.Sl
namespace Go.Proofs.YtnpicaigdfnmfaaGreat.Sl
open Go.RowKit Pag
theorem wp_copy_at{P:Program}(w:World){o:Oper}{a:Act}{K:Act→World→Prop}{Q:Exit→Act→World→Prop}(d s:Operand)(t t':TypeId)
  (ho:o.op=.call { callee:=.builtin .copy,args:= #[d,s],argTypes:= #[t,t'] }) (v u:Value) (hd:a.eval d=v) (hs:a.eval s=u) {v':Value} {w':World}
  (hr:(Builtin.copy_ #[t,t'] o.type #[v,u]).run P w=.ok v' w') (h:K (a.put o.dst v') w'):o.wp P a w K Q:=by
 unfold Oper.wp execOp;simp only[ho,resolve,invoke,builtin,Sem.run_bind,Sem.run_pure,Result.andThen_ok,List.map_toArray,List.map_cons,List.map_nil,hd,hs,hr];exact h
theorem wpList_copy_at{P:Program}(w:World){ops:Array Oper}{rest:List Oper}{o:Oper}{a:Act}{Q:Exit→Act→World→Prop}(hgd:o.guard=none)(d s:Operand)(t t':TypeId)
  (ho:o.op=.call { callee:=.builtin .copy,args:= #[d,s],argTypes:= #[t,t'] }) (v u:Value) (hd:a.eval d=v) (hs:a.eval s=u) {v':Value} {w':World}
  (hr:(Builtin.copy_ #[t,t'] o.type #[v,u]).run P w=.ok v' w') (h:wpList P ops Q rest (a.put o.dst v') w'):wpList P ops Q (o::rest) a w:=
 wpList_plain hgd fun _ hK=>wp_copy_at w d s t t' ho v u hd hs hr (hK _ _ h)
theorem step_copy_at{P:Program}{ops:Array Oper}{o:Oper}{a:Act}{w:World}{K:Act→World→Prop}{Q:Exit→Act→World→Prop}{E:Prop}
  (hg:o.guard=none) (d x:Operand) (dT sT:TypeId) (hop:o.op=Op.call { callee:=Callee.builtin Builtin.copy,args:= #[d,x],argTypes:= #[dT,sT] })
  (v u:Value) (hd:a.eval d=v) (hx:a.eval x=u) {v':Value} {w':World} (hr:(Builtin.copy_ #[dT,sT] o.type #[v,u]).run P w=.ok v' w') (hK:K (a.put o.dst v') w'):
  if Region.wanted o (yielded ops a.tmps)=true then Oper.wp P o a w K Q else E:=by
 have hw:Region.wanted o (yielded ops a.tmps)=true:=by simp[Region.wanted,hg]
 rw[if_pos hw];exact wp_copy_at w d x dT sT hop v u hd hx hr hK
def InsPost(w:World)(v:Value)(xs:List Int)(k:Nat)(x:Int)(e:Ending)(w':World):Prop:=
 ∃v',e=.returned v'∧Lst w' v' (xs.take k++x::xs.drop k)∧Mod (fun b=>v.ownBlock=some b) w w'∧∀b,v'.ownBlock=some b→v.ownBlock=some b∨w.heap.size≤b
theorem one_cell{w:World}{vb:Nat}{x:Int}(hv:w.heap[vb]? =some (.cells #[.int .u32 x] 42 (0,0))):∀j u,[Value.int .u32 x][j]? =some u→w.cell? ((⟨vb,0,none⟩:Addr).add j)=some u:=fun j u hu=>by
 rw[Addr.add_lit,Nat.zero_add];unfold World.cell?;rw[hv]
 simpa using hu
theorem insert_end{w:World}{v:Value}{xs:List Int}(h:Lst w v xs)(x:Int)(hs:xs.length≤2000000)(vb:Nat)(hv:w.heap[vb]? =some (.cells #[.int .u32 x] 42 (0,0))):
  Calls Tryz.prog 300 #[v,.int .i64 xs.length,.slice (some ⟨vb,0,none⟩) 1 1] w (InsPost w v xs xs.length x):=by
 obtain⟨i0,hi0,hz0,hz1,hz2⟩:=info_parts infoU32;have H:=Lh h;have HC:=Lh (one_cell hv);obtain⟨n,hn⟩:∃n,xs.length=n:=⟨_,rfl⟩;have HF:Hid (∀v' w',SlV w' 42 1 v' (xs.length+1) (xs.map encU++[.int .u32 x])→Mod (fun k=>v.ownBlock=some k) w w'→(v'.ownBlock=v.ownBlock∨∃k,v'.ownBlock=some k∧w.heap.size≤k)→InsPost w v xs xs.length x (.returned v') w'):=Lh fun v' w' h1 h2 h3=>by
  refine⟨v',rfl, ?_,h2,fun b hb=> ?_⟩
  ·unfold Lst;rw[List.take_length,List.drop_length,List.length_append,List.map_append];exact h1
  ·rcases h3 with g|⟨k,g1,g2⟩
   ·exact .inl (g▸hb)
   ·rw[g1] at hb;injection hb with hb;exact .inr (hb▸g2)
 generalize InsPost w v xs xs.length x=PQ at*;unfold Lst at H;obtain⟨a,cap,rfl⟩:=h.form;have hnc:n≤cap:=by
  rcases h.2 with⟨h0,_,_⟩|⟨g,off,cap',cur,e,hg,hnc,_⟩
  ·omega
  ·simp only[Value.slice.injEq] at e;omega
 have hcap:cap≤9223372036854775807:=by
  rcases h.2 with⟨h0,_,e⟩|⟨g,off,cap',cur,e,hg,_,hcm,_⟩
  ·simp only[Value.slice.injEq] at e;omega
  ·simp only[Value.slice.injEq] at e;unfold maxLen at hcm;omega
 rw[hn] at H HF hs⊢;clear h hv;have hml:n+1≤maxLen:=by unfold maxLen;omega
 have hby:(n+1)*4≤140737488355328:=by omega
 have HLn:=Lh hn;have HX:Hid ((xs.map encU).length=n*1):=Lh (by rw[List.length_map,hn,Nat.mul_one]);clear hn;generalize xs.map encU=cs at*;cases a with
 |none=>
  go_enter func300,ntmps300;go_wp2_with (at_builtin;refine wpList_append_slv _ rfl _ _ 41 rfl 42 i0 (.int .u32 0) 1 4 Tryz.underlying41 hi0 hz0 hz1 hz2 rfl (by decide) _ n cs rfl H.out ⟨vb,0,none⟩ 1 1 [.int .u32 x] rfl (by omega) rfl HC.out (by simp[Value.oneCell']) hml hby ?_;intro v2 w2 hl2 hm2 hb2)
  all_goals exact HF.out v2 w2 hl2 hm2 hb2
 |some a=>
  obtain⟨g,off,sp⟩:=a;go_enter func300,ntmps300;go_wp2_with (at_builtin;refine wpList_append_slv _ rfl _ _ 41 rfl 42 i0 (.int .u32 0) 1 4 Tryz.underlying41 hi0 hz0 hz1 hz2 rfl (by decide) _ n cs rfl H.out ⟨vb,0,none⟩ 1 1 [.int .u32 x] rfl (by omega) rfl HC.out (by simp[Value.oneCell']) hml hby ?_;intro v2 w2 hl2 hm2 hb2)
  all_goals exact HF.out v2 w2 hl2 hm2 hb2
theorem insert_shift{w:World}{g off cap:Nat}{cur:Array Value}{xs:List Int}(hg:w.heap[g]? =some (.cells cur 42 (0,0)))(hcm:cap≤maxLen)(hcs:off+cap*1≤cur.size)(hc:∀j,j<xs.length*1→cur[off+j]? =(xs.map encU)[j]?)
  (x:Int) (k:Nat) (hk:k<xs.length) (hroom:xs.length+1≤cap) (hs:xs.length≤2000000) (vb:Nat) (hv:w.heap[vb]? =some (.cells #[.int .u32 x] 42 (0,0))) (hvg:vb≠g):
  Calls Tryz.prog 300 #[.slice (some ⟨g,off,none⟩) xs.length cap,.int .i64 k,.slice (some ⟨vb,0,none⟩) 1 1] w (InsPost w (.slice (some ⟨g,off,none⟩) xs.length cap) xs k x):=by
 obtain⟨i0,hi0,hz0,hz1,hz2⟩:=info_parts infoU32;have hsz:(Tryz.prog.info? 42).map (·.size)=some 1:=by rw[hi0];simp[hz1]
 obtain⟨n,hn⟩:∃n,xs.length=n:=⟨_,rfl⟩;rw[hn] at hk hroom hs hc⊢;obtain⟨news,hnews⟩:∃news,news=(xs.drop k).map encU:=⟨_,rfl⟩;have hlen:news.length=n - k:=by rw[hnews];simp[hn]
 have hcell:∀j,j<n→w.cell? ⟨g,off+j,none⟩=(xs.map encU)[j]? :=fun j hj=>by
  unfold World.cell?;rw[hg];exact hc j (by omega)
 have hsome:∀j,j<n+1→(w.cell? ⟨g,off+j,none⟩).isSome=true:=fun j hj=>by
  unfold World.cell?;rw[hg];simp[Array.getElem?_eq_getElem (show off+j<cur.size by omega)]
 have hfree:∀(j:Nat),w.frozen? ⟨g,j,none⟩=false:=fun j=>by
  unfold World.frozen?;rw[hg]
  simp
 have hsa:w.shape? vb=some (42,1):=by unfold World.shape?;rw[hv];rfl
 have hsb:w.shape? g=some (42,cur.size):=by unfold World.shape?;rw[hg]
 have hfv:∀j,w.frozen? ⟨vb,j,none⟩=false:=fun j=>by unfold World.frozen?;rw[hv];simp
 have hov:∀lb cb,(callFunc 329 #[.slice (some ⟨vb,0,none⟩) 1 1,.slice (some ⟨g,off+(k+1),none⟩) lb cb]).run Tryz.prog w=.ok (.value (.bool false)) w:=fun lb cb=>by
  rw[run_callFunc_extern func329 (by kernel_rfl) (by kernel_rfl) (by kernel_rfl) (e:=Extern.SlicesOverlaps.overlaps #[41,41] #[4]) (by kernel_rfl),
   Lib.run_overlaps_apart w 41 4 42 Tryz.underlying41 1 Tryz.sizeOf42 ⟨vb,0,none⟩ ⟨g,off+(k+1),none⟩ 1 1 lb cb hvg _ _ _ _ hsa hsb (by omega) (hfv _) (hfv _)]
  rfl
 have hsrc:∀t u,news[t]? =some u→w.cell? ⟨g,off+k+t,none⟩=some u:=fun t u hu=>by
  have ht:t<n - k:=by rw[←hlen];exact(List.getElem?_eq_some_iff.1 hu).1
  rw[hnews,List.getElem?_map,List.getElem?_drop,←List.getElem?_map,←hcell _ (by omega)] at hu;rw[Nat.add_assoc];exact hu
 have h1c:∀u∈news,u.oneCell'=true:=fun u hu=>by
  rw[hnews] at hu;obtain⟨x,_,rfl⟩:=List.mem_map.1 hu;rfl
 have hcp1:∀ty dc sc,(Builtin.copy_ #[41,41] ty #[.slice (some ⟨g,off+(k+1),none⟩) (n - k) dc,.slice (some ⟨g,off+k,none⟩) (n+1 - k) sc]).run Tryz.prog w.drew=.ok (goInt news.length) (w.drew.setCells g (off+(k+1)) news):=fun ty dc sc=>
  run_copy_cells w.drew _ _ ty 42 g (off+(k+1)) (n - k) dc ⟨g,off+k,none⟩ (n+1 - k) sc news Tryz.underlying41 hsz (by rw[hlen];simp only[Nat.min_def];split<;>omega)
   (fun j v hj=>by rw[Addr.add_lit];exact hsrc j v hj)
   (fun j hj=>by rw[Nat.add_assoc];exact hsome _ (by omega)) (fun j hj=>hfree _) h1c
 obtain⟨W1,hW1⟩:∃W1,W1=w.drew.setCells g (off+(k+1)) news:=⟨_,rfl⟩;obtain⟨cur1,c1,c2,c3,c4⟩:=heap_setCells_same g 42 news w.drew (off+(k+1)) cur hg (by rw[hlen];omega);have m1:=mod_setCells g news w.drew (off+(k+1));rw[←hW1] at c1 m1 hcp1;have hv1:W1.heap[vb]? =some (.cells #[.int .u32 x] 42 (0,0)):=(m1.block _ (lQ hv) hvg).trans hv;have hcp2:∀ty dc,(Builtin.copy_ #[41,41] ty #[.slice (some ⟨g,off+k,none⟩) (n+1 - k) dc,.slice (some ⟨vb,0,none⟩) 1 1]).run Tryz.prog W1=.ok (goInt 1) (W1.setCells g (off+k) [.int .u32 x]):=fun ty dc=>
  run_copy_cells W1 _ _ ty 42 g (off+k) (n+1 - k) dc ⟨vb,0,none⟩ 1 1 [.int .u32 x] Tryz.underlying41 hsz (by simp only[Nat.min_def,List.length_singleton];split<;>omega)
   (one_cell hv1) (fun j hj=>by unfold World.cell?;rw[c1];simp at hj;simp[hj,Array.getElem?_eq_getElem (show off+k<cur1.size by omega)]) (fun j hj=>by unfold World.frozen?;rw[c1];simp) (by simp[Value.oneCell'])
 have hset:W1.setCells g (off+k) [.int .u32 x]=W1.setCell ⟨g,off+k,none⟩ (.int .u32 x):=by simp[World.setCells]
 have d1:=heap_setCell_same W1 g (off+k) cur1 42 (.int .u32 x) c1;have HFin:Hid (InsPost w (.slice (some ⟨g,off,none⟩) n cap) xs k x (.returned (.slice (some ⟨g,off,none⟩) (n+1) cap)) (W1.setCells g (off+k) [.int .u32 x])):=by
  have hL:(xs.take k++x::xs.drop k).length=n+1:=by simp[hn];omega
  have hT:(xs.take k).length=k:=by rw[List.length_take];omega
  refine Lh ⟨_,rfl,⟨by simp,.inr ⟨g,off,cap,_,by rw[hL],by rw[hset];exact d1,by rw[hL];exact hroom,hcm,by rw[Array.size_setIfInBounds,c2];exact hcs,fun t ht=> ?_⟩⟩, ?_,fun b hb=>.inl hb⟩
  ·rw[hL] at ht;rw[Array.getElem?_setIfInBounds,List.getElem?_map];rcases Nat.lt_trichotomy t k with e|e|e
   ·rw[if_neg (by omega),c3 _ (by omega),hc t (by omega),List.getElem?_map,List.getElem?_append_left (by omega),List.getElem?_take_of_lt e]
   ·subst e;rw[if_pos rfl,if_pos (by omega),List.getElem?_append_right (by omega),hT,Nat.sub_self];rfl
   ·rw[if_neg (by omega)];have:=c4 (t - (k+1)) (by rw[hlen];omega);rw[show off+(k+1)+(t - (k+1))=off+t by omega] at this;rw[this,hnews,List.getElem?_map,List.getElem?_append_right (by omega),hT,show t - k=(t - (k+1))+1 by omega];rfl
  ·have m2:=mod_setCells g [.int .u32 x] W1 (off+k);have m0:Mod (fun i=>i=g) w w.drew:=(Mod.refl _ _).drew;exact((m0.same m1).same m2).mono fun i _ hi=>by rw[hi];rfl
 have hz2:¬((k:Int)=n):=by omega
 have mixed:Tryz.prog.follows .mixedOrders=true:=by kernel_rfl
 have hw1:IntKind.i64.wrap ((k:Int)+1)=(k:Int)+1:=by rw[IntKind.wrap_i64];omega
 have hb1:(0:Int)≤(k:Int)+1:=by omega
 have hin:k≤n:=by omega
 have htn:((k:Int)+1).toNat=k+1:=by omega
 have hb2:¬(cap=k+1):=by omega
 have hb3:(k:Int)≤(n:Int)+1:=by omega
 have hb4:¬(cap=k):=by omega
 have hc63:cap≤9223372036854775807:=by unfold maxLen at hcm;omega
 generalize InsPost w (.slice (some ⟨g,off,none⟩) n cap) xs k x=PQ at*;clear hW1 c1 c2 c3 c4 d1 hset m1 hnews hlen hsome hfree hcell hc hg hn hsrc h1c hv1 hv hfv hsa hsb;go_enter func300,ntmps300;go_wp2_with (simp only[hov]);go_region_law_o (refine step_copy_at rfl _ _ 41 41 rfl _ _ (by simp[Act.eval,Act.put]) (by simp[Act.eval,Act.put]) (hcp1 _ _ _) ?_);go_wp2_with (at_builtin;refine wpList_copy_at _ rfl _ _ 41 41 rfl _ _ rfl rfl (hcp2 _ _) ?_);exact HFin.out
theorem run_append_zeros{P:Program}(w:World)(t tn ty e:TypeId)(i:TypeInfo)(z:Value)(k kn:IntKind)(ht:P.underlying t=some (.slice e))(htn:P.underlying tn=some (.int kn))(hi:P.info? e=some i)(hz:i.zero=some z)
  (base:Option Addr) (sLen sCap:Nat) (olds:List Value) (hold:(Builtin.firstCells i.size sLen (.slice base sLen sCap)).run P w.drew=.ok olds.toArray w.drew)
  (n:Nat) (h0:0<n) (hs:0<i.size) (hg:sCap<sLen+n) (h63:((sLen+n:Nat):Int)≤9223372036854775807) (hfit:Builtin.nextslicecap (sLen+n) sCap*i.bytes≤281474976710656) (h48:n*i.bytes≤281474976710656):
  (Builtin.append_ #[t,tn] ty #[.slice base sLen sCap,.int k n]).run P w=
   .ok (.slice (some ⟨w.heap.size,0,none⟩) (sLen+n) (grownCap w (sLen+n) sCap e)) (w.drew.alloc (.cells (olds.toArray++Builtin.zeroCells z.cells n++Builtin.zeroCells z.cells (grownCap w (sLen+n) sCap e - (sLen+n))) e)):=by
 have hn:n≠0:=by omega
 have hnr:¬(sLen+n≤sCap):=by omega
 have hw:IntKind.i64.wrap (n:Int)=n:=by rw[IntKind.wrap_i64];omega
 have h63':¬(9223372036854775807<((sLen:Int)+(n:Int))):=by omega
 have h63n:¬(9223372036854775807<(n:Int)):=by omega
 have h48':¬(281474976710656<Builtin.nextslicecap (sLen+n) sCap*i.bytes):=by omega
 have h48i:¬(281474976710656<(n:Int)*(i.bytes:Int)):=by
  rw[←Int.natCast_mul];omega
 have hneg:¬((n:Int)<0):=by omega
 have hns:¬(n*i.size=0):=Nat.mul_ne_zero hn (by omega);simp[Builtin.append_,run_underlying ht,run_underlying htn,sizeOf,typeInfo,zeroValue,hi,hz,asInt,asIntOf,hw,hn,hnr,hneg,hns,h63',h63n,h48',h48i,Question.forced,hold,newRow,grownCap]
theorem insert_grow{w:World}{g off cap:Nat}{cur:Array Value}{xs:List Int}(hg:w.heap[g]? =some (.cells cur 42 (0,0)))(hcm:cap≤maxLen)(hcs:off+cap*1≤cur.size)(hc:∀j,j<xs.length*1→cur[off+j]? =(xs.map encU)[j]?)
  (x:Int) (k:Nat) (hk:k<xs.length) (hnc:xs.length≤cap) (hroom:cap<xs.length+1) (hs:xs.length≤2000000) (vb:Nat) (hv:w.heap[vb]? =some (.cells #[.int .u32 x] 42 (0,0))):
  Calls Tryz.prog 300 #[.slice (some ⟨g,off,none⟩) xs.length cap,.int .i64 k,.slice (some ⟨vb,0,none⟩) 1 1] w (InsPost w (.slice (some ⟨g,off,none⟩) xs.length cap) xs k x):=by
 obtain⟨i0,hi0,hz0,hz1,hz2⟩:=info_parts infoU32;have hsz:(Tryz.prog.info? 42).map (·.size)=some 1:=by rw[hi0];simp[hz1]
 obtain⟨n,hn⟩:∃n,xs.length=n:=⟨_,rfl⟩;rw[hn] at hk hnc hroom hs hc⊢;obtain rfl:cap=n:=by omega
 obtain⟨news,hnews⟩:∃news,news=(xs.drop k).map encU:=⟨_,rfl⟩;have hlen:news.length=cap - k:=by rw[hnews];simp[hn]
 have hcell:∀j,j<cap→w.cell? ⟨g,off+j,none⟩=(xs.map encU)[j]? :=fun j hj=>by
  unfold World.cell?;rw[hg];exact hc j (by omega)
 have hold:(Builtin.firstCells i0.size k (.slice (some ⟨g,off,none⟩) k cap)).run Tryz.prog w.drew=.ok ((xs.take k).map encU).toArray w.drew:=by
  rw[hz1];exact run_firstCells_some w.drew 1 k ⟨g,off,none⟩ k cap _ (by simp[hn];omega) (fun j v hj=>by
   have hjk:j<k:=by have:=(List.getElem?_eq_some_iff.1 hj).1;simp[hn] at this;omega
   rw[Addr.add_lit];refine(hcell j (by omega)).trans ?_;rw[List.getElem?_map] at hj⊢;rw[List.getElem?_take_of_lt hjk] at hj;exact hj)
 have hrun:=fun ty=>run_append_zeros (P:=Tryz.prog) w 41 3 ty 42 i0 _ .i64 .i64 Tryz.underlying41 Tryz.underlying3 hi0 hz0 (some ⟨g,off,none⟩) k cap _ hold (cap+1 - k) (by omega) (by omega) (by omega) (by omega) (growslice_fits (by omega) (by rw[hz2];omega)) (by rw[hz2];omega)
 rw[show k+(cap+1 - k)=cap+1 by omega] at hrun;have hge:=grownCap_ge w (cap+1) cap 42;have hgm:=grownCap_le_maxLen w (cap+1) cap 42 (by unfold maxLen;omega);generalize grownCap w (cap+1) cap 42=gc at*;obtain⟨E,hE⟩:∃E,((xs.take k).map encU).toArray++Builtin.zeroCells (Value.int .u32 0).cells (cap+1 - k)++Builtin.zeroCells (Value.int .u32 0).cells (gc - (cap+1))=E:=⟨_,rfl⟩;rw[hE] at hrun;have hEs:E.size=gc:=by
  rw[←hE];simp only[Array.size_append,size_zeroCells,List.size_toArray,List.length_map,List.length_take];have:(Value.int IntKind.u32 0).cells.size=1:=rfl;rw[this];omega
 have hEg:∀t,t<k→E[t]? =(xs.map encU)[t]? :=fun t ht=>by
  rw[←hE,Array.append_assoc,Array.getElem?_append_left (by simp[hn];omega)];simp[List.getElem?_take_of_lt ht]
 obtain⟨q,hq⟩:∃q,w.heap.size=q:=⟨_,rfl⟩;have hgl:=lQ hg;have hvl:=lQ hv;obtain⟨W0,hW0⟩:∃W0,W0=w.drew.alloc (.cells E 42):=⟨_,rfl⟩;rw[hq] at hrun hgl hvl;rw[←hW0] at hrun;have c0:W0.heap[q]? =some (.cells E 42 (0,0)):=by rw[hW0,←hq];exact heap_alloc_new w.drew _
 have hbel0:Below q w W0:=by rw[hW0,←hq];exact Br.drew.alloc (Nat.le_refl _) _
 have hcp2:∀ty dc,(Builtin.copy_ #[41,41] ty #[.slice (some ⟨q,k,none⟩) (cap+1 - k) dc,.slice (some ⟨vb,0,none⟩) 1 1]).run Tryz.prog W0=.ok (goInt 1) (W0.setCells q k [.int .u32 x]):=fun ty dc=>
  run_copy_cells W0 _ _ ty 42 q k (cap+1 - k) dc ⟨vb,0,none⟩ 1 1 [.int .u32 x] Tryz.underlying41 hsz (by simp only[Nat.min_def,List.length_singleton];split<;>omega)
   (one_cell ((hbel0.block _ hvl).trans hv)) (fun j hj=>by unfold World.cell?;rw[c0];simp at hj;simp[hj,Array.getElem?_eq_getElem (show k<E.size by omega)]) (fun j hj=>by unfold World.frozen?;rw[c0];simp) (by simp[Value.oneCell'])
 have hset:W0.setCells q k [.int .u32 x]=W0.setCell ⟨q,k,none⟩ (.int .u32 x):=by simp[World.setCells]
 have c1:=heap_setCell_same W0 q k E 42 (.int .u32 x) c0;obtain⟨W1,hW1⟩:∃W1,W1=W0.setCells q k [.int .u32 x]:=⟨_,rfl⟩;rw[←hW1] at hcp2;rw[←hset,←hW1] at c1;have hbel1:Below q w W1:=by
  rw[hW1];refine Mod.below hbel0 (mod_setCells q _ W0 k) (Nat.le_of_lt (lQ c0)) fun i _ hi=> ?_
  exact Nat.le_of_eq hi.symm
 have hsrc:∀t u,news[t]? =some u→W1.drew.cell? ((⟨g,off+k,none⟩:Addr).add t)=some u:=fun t u hu=>by
  have ht:t<cap - k:=by rw[←hlen];exact(List.getElem?_eq_some_iff.1 hu).1
  rw[hnews,List.getElem?_map,List.getElem?_drop,←List.getElem?_map,←hcell _ (by omega)] at hu;rw[Addr.add_lit,Nat.add_assoc];exact(hbel1.cell (p:=⟨g,off+(k+t),none⟩) hgl).trans hu
 have h1c:∀u∈news,u.oneCell'=true:=fun u hu=>by
  rw[hnews] at hu;obtain⟨x,_,rfl⟩:=List.mem_map.1 hu;rfl
 have hcp1:∀ty dc sc,(Builtin.copy_ #[41,41] ty #[.slice (some ⟨q,k+1,none⟩) (cap - k) dc,.slice (some ⟨g,off+k,none⟩) (cap - k) sc]).run Tryz.prog W1.drew=.ok (goInt news.length) (W1.drew.setCells q (k+1) news):=fun ty dc sc=>
  run_copy_cells W1.drew _ _ ty 42 q (k+1) (cap - k) dc ⟨g,off+k,none⟩ (cap - k) sc news Tryz.underlying41 hsz (by rw[hlen];simp only[Nat.min_def];split<;>omega)
   hsrc
   (fun j hj=>by
    rw[hlen] at hj
    show(W1.cell? _).isSome=true
    unfold World.cell?;rw[c1];simp[Array.getElem?_eq_getElem (show k+1+j<(E.setIfInBounds k (.int .u32 x)).size by rw[Array.size_setIfInBounds,hEs];omega)])
   (fun j hj=>by show W1.frozen? _=false;unfold World.frozen?;rw[c1];simp) h1c
 obtain⟨cur2,d1,d2,d3,d4⟩:=heap_setCells_same q 42 news W1.drew (k+1) _ c1 (by rw[Array.size_setIfInBounds,hlen];omega);have hbel2:Below q w (W1.drew.setCells q (k+1) news):=by
  refine Mod.below hbel1.drew (mod_setCells q news W1.drew (k+1)) (Nat.le_of_lt (lQ c1)) fun i _ hi=> ?_
  exact Nat.le_of_eq hi.symm
 have HFin:Hid (InsPost w (.slice (some ⟨g,off,none⟩) cap cap) xs k x (.returned (.slice (some ⟨q,0,none⟩) (cap+1) gc)) (W1.drew.setCells q (k+1) news)):=by
  have hL:(xs.take k++x::xs.drop k).length=cap+1:=by simp[hn];omega
  have hT:(xs.take k).length=k:=by rw[List.length_take];omega
  refine Lh ⟨_,rfl,⟨by simp,.inr ⟨q,0,gc,cur2,by rw[hL],d1,by rw[hL];exact hge,hgm,by rw[d2,Array.size_setIfInBounds,hEs];omega,fun t ht=> ?_⟩⟩, ?_,fun b hb=> ?_⟩
  ·rw[hL] at ht;rw[Nat.zero_add,List.getElem?_map];rcases Nat.lt_trichotomy t k with e|e|e
   ·rw[d3 _ (by omega),Array.getElem?_setIfInBounds,if_neg (by omega),hEg t e,List.getElem?_map,List.getElem?_append_left (by omega),List.getElem?_take_of_lt e]
   ·subst e;rw[d3 _ (by omega),Array.getElem?_setIfInBounds,if_pos rfl,if_pos (by omega),List.getElem?_append_right (by omega),hT,Nat.sub_self];rfl
   ·have:=d4 (t - (k+1)) (by rw[hlen];omega);rw[show k+1+(t - (k+1))=t by omega] at this;rw[this,hnews,List.getElem?_map,List.getElem?_append_right (by omega),hT,show t - k=(t - (k+1))+1 by omega];rfl
  ·subst hq;exact Mod.of_below hbel2 _
  ·injection hb with hb
   exact .inr (Nat.le_of_eq (hq.trans hb))
 have hz2:¬((k:Int)=cap):=by omega
 have mixed:Tryz.prog.follows .mixedOrders=true:=by kernel_rfl
 have hw1:IntKind.i64.wrap ((k:Int)+1)=(k:Int)+1:=by rw[IntKind.wrap_i64];omega
 have hb1:(0:Int)≤(k:Int)+1:=by omega
 have hin:k≤cap:=by omega
 have htn:((k:Int)+1).toNat=k+1:=by omega
 have hb2:¬(gc=k+1):=by omega
 have hb3:(k:Int)≤(cap:Int)+1:=by omega
 have hb4:¬(gc=k):=by omega
 have hb5:¬(cap=k):=by omega
 have hsub:(cap:Int)+1 - k=((cap+1 - k:Nat):Int):=by omega
 have hc63:gc≤9223372036854775807:=by unfold maxLen at hgm;omega
 generalize InsPost w (.slice (some ⟨g,off,none⟩) cap cap) xs k x=PQ at*;clear hW0 hW1 c0 c1 d1 d2 d3 d4 hset hnews hlen hcell hold hc hg hn hsrc h1c hv hE hEs hEg hbel0 hbel1 hbel2 hq;go_enter func300,ntmps300;go_wp2_with (at_builtin;refine Lib.wpList_append_run _ rfl _ _ _ _ rfl _ _ rfl rfl _ _ (hrun _) ?_);go_region_law_o (refine step_copy_at rfl _ _ 41 41 rfl _ _ (by simp[Act.eval,Act.put]) (by simp[Act.eval,Act.put]) (hcp1 _ _ _) ?_);go_wp2;exact HFin.out
theorem insert{w:World}{v:Value}{xs:List Int}(h:Lst w v xs)(x:Int)(k:Nat)(hk:k≤xs.length)(hs:xs.length≤2000000)(vb:Nat)(hv:w.heap[vb]? =some (.cells #[.int .u32 x] 42 (0,0)))(hvg:v.ownBlock≠some vb):
  Calls Tryz.prog 300 #[v,.int .i64 k,.slice (some ⟨vb,0,none⟩) 1 1] w (InsPost w v xs k x):=by
 by_cases e:k=xs.length
 ·rw[e];exact insert_end h x hs vb hv
 ·rcases h.2 with⟨h0,a,rfl⟩|⟨g,off,cap,cur,rfl,hg,hnc,hcm,hcs,hc⟩
  ·omega
  ·by_cases hroom:xs.length+1≤cap
   ·exact insert_shift hg hcm hcs hc x k (by omega) hroom hs vb hv fun e=>hvg (by rw[e];rfl)
   ·exact insert_grow hg hcm hcs hc x k (by omega) hnc (by omega) hs vb hv
end Go.Proofs.YtnpicaigdfnmfaaGreat.Sl
namespace Go.Proofs.YtnpicaigdfnmfaaGreat
open Go.RowKit Word
structure StpBox(w:World)(b:Nat)(k u y:Int):Prop where
 blk:w.heap[b]? =some (.cells #[.int .u8 k,.int .u32 u,.int .i64 y] 175 (0,0))
theorem StpBox.mod{F:Nat→Prop}{w w':World}{b:Nat}{k u y:Int}(h:StpBox w b k u y)(hm:Mod F w w')(hF:¬F b):StpBox w' b k u y:=⟨(hm.block _ (lQ h.blk) hF).trans h.blk⟩
theorem StpBox.cells{w:World}{b:Nat}{k u y:Int}(h:StpBox w b k u y):w.cell? ⟨b,0,none⟩=some (.int .u8 k)∧w.cell? ⟨b,1,none⟩=some (.int .u32 u)∧w.cell? ⟨b,2,none⟩=some (.int .i64 y)∧w.frozen? ⟨b,0,none⟩=false∧w.frozen? ⟨b,1,none⟩=false∧w.frozen? ⟨b,2,none⟩=false:=by
 unfold World.cell? World.frozen?;rw[h.blk];exact⟨rfl,rfl,rfl,rfl,rfl,rfl⟩
theorem StpBox.set{w:World}{b:Nat}{k u y:Int}(h:StpBox w b k u y)(k' u' y':Int):StpBox (((w.setCell ⟨b,0,none⟩ (.int .u8 k')).setCell ⟨b,1,none⟩ (.int .u32 u')).setCell ⟨b,2,none⟩ (.int .i64 y')) b k' u' y':=⟨Cp.set3_blk h.blk _ _ _⟩
theorem stp_mod(w:World)(b:Nat)(x y z:Value):Mod (fun i=>i=b) w (((w.setCell ⟨b,0,none⟩ x).setCell ⟨b,1,none⟩ y).setCell ⟨b,2,none⟩ z):=Mod.setCell (F:=fun i=>i=b) (Mod.setCell (F:=fun i=>i=b) (Mod.setCell (F:=fun i=>i=b) (Mod.refl _ _) ⟨b,0,none⟩ (.inl rfl) _) ⟨b,1,none⟩ (.inl rfl) _) ⟨b,2,none⟩ (.inl rfl) _
open Go.RowKit Word
structure En where
 num:Int
 kind:Int
 code:Int
 why:Int
 text:ByteArray
 own:List Int
 A:List Pg
 r:List Int
 pc:Int
namespace En
def step(E:En):En:=
 if E.kind≠2 then E else
  let o:=Cp.stp E.A E.r E.pc
  if o.kind=2 then { E with A:=o.A,r:=o.r,pc:=o.pc,kind:=4,code:=0,why:=o.why } else { E with A:=o.A,r:=o.r,pc:=o.pc }
def stop(E:En):Int×Int×Int:=if E.kind≠2 then(0,0,0) else((Cp.stp E.A E.r E.pc).kind,(Cp.stp E.A E.r E.pc).num,(Cp.stp E.A E.r E.pc).why)
def redE(E:En):Int:=if E.kind≠2 then 3 else 0
def exit(E:En)(c:Int):En:=if E.kind≠2 then E else { E with kind:=3,code:=c,why:=0 }
def mayP(x:Int):Bool:=x % 256 == 0&&decide (256≤x)&&decide (x<1048576)
def mayE(E:En)(x:Int):Int:=if E.kind≠2 then 3 else if mayP x=false then 2 else 0
def ins(x:Int):List Int→List Int
 | []=>[x]
 |y::l=>if x<y then x::y::l else y::ins x l
def pageE(E:En)(x:Int):Int:=if E.mayE x≠0 then E.mayE x else Sp.mapE E.A x 3
def page(E:En)(x:Int)(blk:Nat):En:=if E.pageE x≠0 then E else { E with A:=Sp.mapA E.A x blk 3,own:=ins x E.own }
def dropE(E:En)(x:Int):Int:=if E.mayE x≠0 then E.mayE x else if x∈E.own then Sp.unmapE E.A x else 3
def drop(E:En)(x:Int):En:=if E.mayE x≠0 then E else if x∈E.own then { E with A:=Sp.unmapA E.A x,own:=E.own.filter (fun y=>y != x) } else E
def putE(E:En)(s:ByteArray):Int:=if E.kind≠2 then 3 else if 4096<E.text.size+s.size then 4 else 0
def put(E:En)(s:ByteArray):En:=if E.putE s≠0 then E else { E with text:=E.text++s }
def arg(E:En)(n:Int):Int:=if 0≤n∧n<16 then Cp.rg E.r n else 0
def answer(E:En)(v y:Int):En:= { E with r:=Cp.putG (Cp.putG E.r 1 v) 2 y }
structure Ok(E:En):Prop where
 up:E.own.Pairwise (·<·)
 may:∀x,x∈E.own→x % 256=0∧256≤x∧x<1048576
 has:∀x,x∈E.own→(atAddr E.A x).isSome=true
 text:E.text.size≤4096
theorem len_up:∀(l:List Int) (lo hi:Int),l.Pairwise (·<·)→(∀x,x∈l→lo≤x∧x<hi)→lo≤hi→(l.length:Int)≤hi - lo
 | [],lo,hi,_,_,h=>by simp;omega
 |y::l,lo,hi,hp,hb,h=>by
  have hy:=hb y (List.mem_cons_self ..);have:=len_up l (y+1) hi (List.pairwise_cons.1 hp).2 (fun x hx=>⟨by have:=(List.pairwise_cons.1 hp).1 x hx;omega,(hb x (List.mem_cons_of_mem _ hx)).2⟩) (by omega);simp only[List.length_cons,Int.natCast_add,Int.natCast_one];omega
theorem Ok.len{E:En}(h:E.Ok):E.own.length≤2000000:=by
 have:=len_up E.own 0 1048576 h.up (fun x hx=>⟨by have:=h.may x hx;omega,(h.may x hx).2.2⟩) (by omega);omega
theorem mem_ins{x y:Int}:∀ {l:List Int},y∈ins x l↔y=x∨y∈l
 | []=>by simp[ins]
 |z::l=>by
  unfold ins
  split
  ·simp
  ·simp[mem_ins (l:=l)]
   constructor
   ·rintro(h|h|h)<;>simp[h]
   ·rintro(h|h|h)<;>simp[h]
theorem up_ins{x:Int}:∀ {l:List Int},l.Pairwise (·<·)→x∉l→(ins x l).Pairwise (·<·)
 | [],_,_=>List.pairwise_singleton _ _
 |z::l,h,hx=>by
  obtain⟨h1,h2⟩:=List.pairwise_cons.1 h;unfold ins
  split
  ·rename_i g
   exact List.pairwise_cons.2 ⟨fun y hy=>by
    rcases List.mem_cons.1 hy with rfl|hy
    ·exact g
    ·exact Int.lt_trans g (h1 y hy),h⟩
  ·rename_i g
   refine List.pairwise_cons.2 ⟨fun y hy=> ?_,up_ins h2 fun q=>hx (List.mem_cons_of_mem _ q)⟩;rcases mem_ins.1 hy with rfl|hy
   ·have:y≠z:=fun e=>hx (e▸List.mem_cons_self ..)
    omega
   ·exact h1 y hy
theorem ins_place:∀ {l:List Int} {x:Int} {k:Nat},Sl.Place l x k→x∉l→l.take k++x::l.drop k=ins x l
 | [],x,k,h,_=>by simp[ins]
 |y::l,x,0,h,hx=>by
  have h1:=h.hi 0 y (Nat.le_refl _) rfl;have h2:y≠x:=fun e=>hx (e▸List.mem_cons_self ..)
  unfold ins;rw[if_pos (by omega)];rfl
 |y::l,x,k+1,h,hx=>by
  have h1:=h.lo 0 y (Nat.succ_pos _) rfl;unfold ins;rw[if_neg (by omega),List.take_succ_cons,List.drop_succ_cons,List.cons_append,ins_place (l:=l) ⟨by have:=h.le;simp at this;exact this,fun j z hj hz=>h.lo (j+1) z (by omega) (by simpa using hz),fun j z hj hz=>h.hi (j+1) z (by omega) (by simpa using hz)⟩ fun q=>hx (List.mem_cons_of_mem _ q)]
theorem place_mem{l:List Int}{x:Int}{k:Nat}(hup:l.Pairwise (·<·))(h:Sl.Place l x k):x∈l↔l[k]? =some x:=by
 refine⟨fun hx=> ?_,fun hx=>List.mem_of_getElem? hx⟩;obtain⟨j,hj⟩:=List.getElem?_of_mem hx;rcases Nat.lt_trichotomy j k with g|rfl|g
 ·have:=h.lo j x g hj;omega
 ·exact hj
 ·have hjl:=(List.getElem?_eq_some_iff.1 hj).1;have hk:l[k]? =some l[k]:=Zg (by omega);have h1:=h.hi k _ (Nat.le_refl _) hk;have h2:=(List.pairwise_iff_getElem.1 hup) k j (by omega) hjl g;have h3:=(List.getElem?_eq_some_iff.1 hj).2;omega
theorem erase_place:∀ {l:List Int} {x:Int} {k:Nat},l.Pairwise (·<·)→l[k]? =some x→l.eraseIdx k=l.filter (fun y=>y != x)
 | [],x,k,_,h=>by simp at h
 |y::l,x,0,hup,h=>by
  obtain⟨h1,h2⟩:=List.pairwise_cons.1 hup;simp at h;subst h;rw[List.eraseIdx_cons_zero,List.filter_cons_of_neg (by simp)]
  symm
  rw[List.filter_eq_self];intro z hz;have:=h1 z hz
  simp
  omega
 |y::l,x,k+1,hup,h=>by
  obtain⟨h1,h2⟩:=List.pairwise_cons.1 hup;simp at h;have:=h1 x (List.mem_of_getElem? h);rw[List.eraseIdx_cons_succ,List.filter_cons_of_pos (by simp;omega),erase_place h2 h]
end En
structure EAt where
 eb:Nat
 sb:Nat
 mb:Nat
 cb:Nat
 lv:Value
def EAt.foot(a:EAt)(A:List Pg)(k:Nat):Prop:=k=a.eb∨k=a.cb∨Spc.foot a.sb a.mb A k∨a.lv.ownBlock=some k
def EAt.cells(a:EAt)(E:En):Array Value:= #[.pointer (some ⟨a.sb,0,none⟩),a.lv,.pointer (some ⟨a.cb,0,none⟩),.int .i64 E.num,.int .u8 E.kind,.int .u32 E.code,.int .i64 E.why,.string E.text]
structure Env(w:World)(a:EAt)(E:En):Prop where
 blk:w.heap[a.eb]? =some (.cells (a.cells E) 232 (0,0))
 cp:Cpu 155 w a.cb E.r E.pc
 sp:Spc w a.sb a.mb E.A
 ls:Sl.Lst w a.lv E.own
 ec:a.eb≠a.cb
 es:¬Spc.foot a.sb a.mb E.A a.eb
 cs:¬Spc.foot a.sb a.mb E.A a.cb
 le:∀g,a.lv.ownBlock=some g→g<w.heap.size∧g≠a.eb∧g≠a.cb∧¬Spc.foot a.sb a.mb E.A g
 ok:E.Ok
namespace Env
variable {w w':World} {a:EAt} {E:En}
theorem lt(h:Env w a E)(k:Nat)(hk:a.foot E.A k):k<w.heap.size:=by
 rcases hk with rfl|rfl|g|g
 ·exact lQ h.blk
 ·exact h.cp.lt
 ·exact h.sp.lt g
 ·exact(h.le k g).1
theorem frame(h:Env w a E)(hf:∀k,a.foot E.A k→w'.heap[k]? =w.heap[k]?)(hz:w.heap.size≤w'.heap.size):Env w' a E:=
 {
  h with
  blk:=(hf _ (.inl rfl)).trans h.blk
  cp:=h.cp.frame (hf _ (.inr (.inl rfl)))
  sp:=h.sp.frame fun k hk=>hf k (.inr (.inr (.inl hk)))
  ls:=h.ls.frame fun g hg=>hf g (.inr (.inr (.inr hg)))
  le:=fun g hg=>⟨Nat.lt_of_lt_of_le (h.le g hg).1 hz,(h.le g hg).2⟩ }
theorem below(h:Env w a E)(hb:Below w.heap.size w w'):Env w' a E:=h.frame (fun k hk=>hb.block k (h.lt k hk)) hb.size
theorem keep{F:Nat→Prop}(h:Env w a E)(hm:Mod F w w')(hF:∀k,a.foot E.A k→¬F k):Env w' a E:=h.frame (fun k hk=>hm.block k (h.lt k hk) (hF k hk)) hm.size
theorem cell(h:Env w a E)(i:Nat)(v:Value)(hi:(a.cells E)[i]? =some v):w.cell? ⟨a.eb,i,none⟩=some v:=by
 unfold World.cell?;rw[h.blk];exact hi
theorem free(h:Env w a E)(i:Nat):w.frozen? ⟨a.eb,i,none⟩=false:=by
 unfold World.frozen?;rw[h.blk]
 simp
end Env
structure EStep(w w':World)(a:EAt)(E:En)(a':EAt)(E':En):Prop where
 env:Env w' a' E'
 same:a'.eb=a.eb∧a'.sb=a.sb∧a'.mb=a.mb∧a'.cb=a.cb
 mod:Mod (a.foot E.A) w w'
 foot:∀k,a'.foot E'.A k→a.foot E.A k∨w.heap.size≤k
namespace EStep
variable {w w' w'':World} {a a' a'':EAt} {E E' E'':En}
theorem refl(h:Env w a E):EStep w w a E a E:=⟨h,⟨rfl,rfl,rfl,rfl⟩,Mod.refl _ _,fun _ g=>.inl g⟩
theorem of_below(h:Env w a E)(hb:Below w.heap.size w w'):EStep w w' a E a E:=⟨h.below hb,⟨rfl,rfl,rfl,rfl⟩,Mod.of_below hb _,fun _ g=>.inl g⟩
theorem trans(h:EStep w w' a E a' E')(k:EStep w' w'' a' E' a'' E''):EStep w w'' a E a'' E'':=
 ⟨k.env,⟨k.same.1.trans h.same.1,k.same.2.1.trans h.same.2.1,k.same.2.2.1.trans h.same.2.2.1,k.same.2.2.2.trans h.same.2.2.2⟩,h.mod.trans k.mod fun i _ g=>h.foot i g,fun i g=>by
  rcases k.foot i g with q|q
  ·exact h.foot i q
  ·exact .inr (Nat.le_trans h.mod.size q)⟩
theorem below(h:EStep w w' a E a' E')(hb:Below w'.heap.size w' w''):EStep w w'' a E a' E':=h.trans (of_below h.env hb)
theorem pre{W:World}(h:EStep w w' a E a' E')(hb:Below W.heap.size W w):EStep W w' a E a' E':=
 ⟨h.env,h.same,(Mod.of_below hb _).trans h.mod fun i _ g=>.inl g,fun i g=>(h.foot i g).imp id fun q=>Nat.le_trans hb.size q⟩
theorem turn{F:Nat→Prop}(h:EStep w w' a E a' E')(hm:Mod F w' w'')(hF:∀k,F k→¬a'.foot E'.A k∧w.heap.size≤k):EStep w w'' a E a' E':=
 ⟨h.env.keep hm fun k hk g=>(hF k g).1 hk,h.same,h.mod.trans hm fun i _ g=>.inr (hF i g).2,h.foot⟩
theorem setState(h:Env w a E)(k c y:Int):EStep w (((w.setCell ⟨a.eb,4,none⟩ (.int .u8 k)).setCell ⟨a.eb,5,none⟩ (.int .u32 c)).setCell ⟨a.eb,6,none⟩ (.int .i64 y)) a E a { E with kind:=k,code:=c,why:=y }:=by
 have hm:Mod (fun i=>i=a.eb) w (((w.setCell ⟨a.eb,4,none⟩ (.int .u8 k)).setCell ⟨a.eb,5,none⟩ (.int .u32 c)).setCell ⟨a.eb,6,none⟩ (.int .i64 y)):=Mod.setCell (F:=fun i=>i=a.eb) (Mod.setCell (F:=fun i=>i=a.eb) (Mod.setCell (F:=fun i=>i=a.eb) (Mod.refl _ _) ⟨a.eb,4,none⟩ (.inl rfl) _) ⟨a.eb,5,none⟩ (.inl rfl) _) ⟨a.eb,6,none⟩ (.inl rfl) _;have b1:=heap_setCell_same w a.eb 4 _ _ (.int .u8 k) h.blk;have b2:=heap_setCell_same _ a.eb 5 _ _ (.int .u32 c) b1;have b3:=heap_setCell_same _ a.eb 6 _ _ (.int .i64 y) b2;refine⟨{ blk:=b3,cp:=h.cp.keep hm (fun g=>h.ec g.symm),sp:=h.sp.keep hm (fun i hi g=>h.es (g▸hi)),ls:=h.ls.keep hm (fun g hg=>(h.le g hg).1) (fun g hg e=>(h.le g hg).2.1 e),ec:=h.ec,es:=h.es,cs:=h.cs,le:=fun g hg=>⟨Nat.lt_of_lt_of_le (h.le g hg).1 hm.size,(h.le g hg).2⟩,ok:=⟨h.ok.up,h.ok.may,h.ok.has,h.ok.text⟩ },⟨rfl,rfl,rfl,rfl⟩,hm.mono fun i _ g=>.inl g,fun i g=>.inl g⟩
theorem setText(h:Env w a E)(s:ByteArray)(hs:s.size≤4096):EStep w (w.setCell ⟨a.eb,7,none⟩ (.string s)) a E a { E with text:=s }:=by
 have hm:Mod (fun i=>i=a.eb) w (w.setCell ⟨a.eb,7,none⟩ (.string s)):=Mod.setCell (F:=fun i=>i=a.eb) (Mod.refl _ _) ⟨a.eb,7,none⟩ (.inl rfl) _;have b1:=heap_setCell_same w a.eb 7 _ _ (.string s) h.blk;refine⟨{ blk:=b1,cp:=h.cp.keep hm (fun g=>h.ec g.symm),sp:=h.sp.keep hm (fun i hi g=>h.es (g▸hi)),ls:=h.ls.keep hm (fun g hg=>(h.le g hg).1) (fun g hg e=>(h.le g hg).2.1 e),ec:=h.ec,es:=h.es,cs:=h.cs,le:=fun g hg=>⟨Nat.lt_of_lt_of_le (h.le g hg).1 hm.size,(h.le g hg).2⟩,ok:=⟨h.ok.up,h.ok.may,h.ok.has,hs⟩ },⟨rfl,rfl,rfl,rfl⟩,hm.mono fun i _ g=>.inl g,fun i g=>.inl g⟩
theorem cpu{r:List Int}{pc:Int}{A:List Pg}(h:Env w a E)(hc:Cpu 155 w' a.cb r pc)(hs:Spc w' a.sb a.mb A)(hk:Cp.blks A=Cp.blks E.A)(ha:A.map Pg.addr=E.A.map Pg.addr)(hm:Mod (fun k=>k=a.cb∨Sp.pgBlk E.A k) w w'):EStep w w' a E a { E with A:=A,r:=r,pc:=pc }:=by
 have hf:∀ {i},Spc.foot a.sb a.mb A i↔Spc.foot a.sb a.mb E.A i:=Cp.foot_iff hk;have hsome:∀x,(atAddr A x).isSome=(atAddr E.A x).isSome:=fun x=>by
  have e:∀B:List Pg,(atAddr B x).isSome=true↔x∈B.map Pg.addr:=fun B=>by
   rw[List.mem_map]
   constructor
   ·intro g;obtain⟨p,hp⟩:=Option.isSome_iff_exists.1 g;exact⟨p,(atAddr_mem hp).1,(atAddr_mem hp).2⟩
   ·rintro⟨p,hp,rfl⟩;cases hq:atAddr B p.addr with
    |some _=>rfl
    |none=>exact absurd rfl (atAddr_none hq p hp)
  rw[Bool.eq_iff_iff,e,e,ha]
 refine⟨{ blk:=(hm.block _ (lQ h.blk) ?_).trans h.blk,cp:=hc,sp:=hs,ls:=h.ls.keep hm (fun g hg=>(h.le g hg).1) ?_,ec:=h.ec,es:=fun g=>h.es (hf.1 g),cs:=fun g=>h.cs (hf.1 g),le:=fun g hg=>⟨Nat.lt_of_lt_of_le (h.le g hg).1 hm.size,(h.le g hg).2.1,(h.le g hg).2.2.1,fun q=>(h.le g hg).2.2.2 (hf.1 q)⟩,ok:=⟨h.ok.up,h.ok.may,fun x hx=>(hsome x).trans (h.ok.has x hx),h.ok.text⟩ },⟨rfl,rfl,rfl,rfl⟩,hm.mono fun i _ g=> ?_,fun i g=>.inl ?_⟩
 ·rintro(g|g)
  ·exact h.ec g
  ·exact h.es (.inr (.inr g))
 ·rintro g hg (q|q)
  ·exact(h.le g hg).2.2.1 q
  ·exact(h.le g hg).2.2.2 (.inr (.inr q))
 ·exact g.elim (fun q=>.inr (.inl q)) fun q=>.inr (.inr (.inl (.inr (.inr q))))
 ·rcases g with q|q|q|q
  ·exact .inl q
  ·exact .inr (.inl q)
  ·exact .inr (.inr (.inl (hf.1 q)))
  ·exact .inr (.inr (.inr q))
theorem regs{r:List Int}(h:Env w a E)(hc:Cpu 155 w' a.cb r E.pc)(hm:Mod (fun k=>k=a.cb) w w'):EStep w w' a E a { E with r:=r }:=
 cpu (A:=E.A) (pc:=E.pc) h hc (h.sp.keep hm fun k hk g=>h.cs (g▸hk)) rfl rfl (hm.mono fun _ _ g=>.inl g)
theorem space{A:List Pg}(h:Env w a E)(s:SStep w w' a.sb a.mb E.A A)(hs:∀x,x∈E.own→(atAddr A x).isSome=true):EStep w w' a E a { E with A:=A }:=by
 have hn:∀k,k<w.heap.size→¬Spc.foot a.sb a.mb E.A k→¬Spc.foot a.sb a.mb A k:=fun k hk g q=>(s.foot k q).elim g fun z=>by omega
 refine⟨{ blk:=(s.mod.block _ (lQ h.blk) h.es).trans h.blk,cp:=h.cp.keep s.mod h.cs,sp:=s.sp,ls:=h.ls.keep s.mod (fun g hg=>(h.le g hg).1) (fun g hg=>(h.le g hg).2.2.2),ec:=h.ec,es:=hn _ (lQ h.blk) h.es,cs:=hn _ h.cp.lt h.cs,le:=fun g hg=>⟨Nat.lt_of_lt_of_le (h.le g hg).1 s.mod.size,(h.le g hg).2.1,(h.le g hg).2.2.1,hn _ (h.le g hg).1 (h.le g hg).2.2.2⟩,ok:=⟨h.ok.up,h.ok.may,hs,h.ok.text⟩ },⟨rfl,rfl,rfl,rfl⟩,s.mod.mono fun i _ g=>.inr (.inr (.inl g)),fun i g=> ?_⟩;rcases g with q|q|q|q
 ·exact .inl (.inl q)
 ·exact .inl (.inr (.inl q))
 ·exact(s.foot i q).imp (fun z=>.inr (.inr (.inl z))) id
 ·exact .inl (.inr (.inr (.inr q)))
theorem list{v:Value}{own:List Int}(h:Env w a E)(hl:Sl.Lst w' v own)(hm:Mod (fun b=>a.lv.ownBlock=some b) w w')(hv:∀b,v.ownBlock=some b→b<w'.heap.size∧(a.lv.ownBlock=some b∨w.heap.size≤b))(hok:({ E with own:=own }:En).Ok):
  EStep w (w'.setCell ⟨a.eb,1,none⟩ v) a E { a with lv:=v } { E with own:=own }:=by
 have hz:=hm.size;have he:w'.heap[a.eb]? =some (.cells (a.cells E) 232 (0,0)):=(hm.block _ (lQ h.blk) fun g=>(h.le _ g).2.1 rfl).trans h.blk;have b1:=heap_setCell_same w' a.eb 1 _ _ v he;have hm2:Mod (fun i=>i=a.eb∨a.lv.ownBlock=some i) w (w'.setCell ⟨a.eb,1,none⟩ v):=(hm.mono fun _ _ g=>.inr g).setCell ⟨a.eb,1,none⟩ (.inl (.inl rfl)) _;have hs2:(w'.setCell ⟨a.eb,1,none⟩ v).heap.size=w'.heap.size:=by simp[World.setCell]
 have hnew:∀ {g},v.ownBlock=some g→g≠a.eb∧g≠a.cb∧¬Spc.foot a.sb a.mb E.A g:=fun hg=>by
  rcases(hv _ hg).2 with q|q
  ·exact(h.le _ q).2
  ·refine⟨fun e=> ?_,fun e=> ?_,fun e=> ?_⟩
   ·have:=lQ h.blk;omega
   ·have:=h.cp.lt;omega
   ·have:=h.sp.lt e;omega
 refine⟨{ blk:=b1,cp:=h.cp.keep hm2 ?_,sp:=h.sp.keep hm2 ?_,ls:=hl.frame fun g hg=>Below.heap_setCell _ _ _ _ (hnew hg).1,ec:=h.ec,es:=h.es,cs:=h.cs,le:=fun g hg=>⟨by rw[hs2];exact(hv g hg).1,hnew hg⟩,ok:=hok },⟨rfl,rfl,rfl,rfl⟩,hm2.mono fun i _ g=>g.elim .inl fun q=>.inr (.inr (.inr q)),fun i g=> ?_⟩
 ·rintro(g|g)
  ·exact h.ec g.symm
  ·exact(h.le _ g).2.2.1 rfl
 ·rintro k hk (g|g)
  ·exact h.es (g▸hk)
  ·exact(h.le _ g).2.2.2 hk
 ·rcases g with q|q|q|q
  ·exact .inl (.inl q)
  ·exact .inl (.inr (.inl q))
  ·exact .inl (.inr (.inr (.inl q)))
  ·exact(hv i q).2.imp (fun z=>.inr (.inr (.inr z))) id
end EStep
open Go.RowKit Word
namespace Ev
section
variable {w:World} {a:EAt} {E:En}
theorem cells(h:Env w a E):w.cell? ⟨a.eb,0,none⟩=some (.pointer (some ⟨a.sb,0,none⟩))∧w.cell? ⟨a.eb,1,none⟩=some a.lv∧w.cell? ⟨a.eb,2,none⟩=some (.pointer (some ⟨a.cb,0,none⟩))∧w.cell? ⟨a.eb,3,none⟩=some (.int .i64 E.num)∧w.cell? ⟨a.eb,4,none⟩=some (.int .u8 E.kind)∧w.cell? ⟨a.eb,5,none⟩=some (.int .u32 E.code)∧w.cell? ⟨a.eb,6,none⟩=some (.int .i64 E.why)∧w.cell? ⟨a.eb,7,none⟩=some (.string E.text):=
 ⟨h.cell 0 _ rfl,h.cell 1 _ rfl,h.cell 2 _ rfl,h.cell 3 _ rfl,h.cell 4 _ rfl,h.cell 5 _ rfl,h.cell 6 _ rfl,h.cell 7 _ rfl⟩
theorem ready(h:Env w a E):Calls Tryz.prog 116 #[.pointer (some ⟨a.eb,0,none⟩)] w fun e w'=>e=.returned (.int .i64 E.redE)∧w=w':=by
 obtain⟨_,_,_,_,c4,_,_,_⟩:=cells h;clear h
 by_cases hk:E.kind=2
 ·have e:E.redE=0:=by unfold En.redE;rw[if_neg (by omega)]
  rw[e];rw[hk] at c4;clear e;go_enter func116,ntmps116;go_wp2;go_ret;exact⟨rfl,rfl⟩
 ·have e:E.redE=3:=by unfold En.redE;rw[if_pos hk]
  rw[e];have hb:(E.kind != 2)=true:=bne_iff_ne.2 hk;go_enter func116,ntmps116;go_wp2;go_ret;exact⟨rfl,rfl⟩
theorem num(h:Env w a E):Calls Tryz.prog 165 #[.pointer (some ⟨a.eb,0,none⟩)] w fun e w'=>e=.returned (.int .i64 E.num)∧w=w':=by
 obtain⟨_,_,_,c3,_,_,_,_⟩:=cells h;clear h;go_enter func165,ntmps165;go_wp2;go_ret;exact⟨rfl,rfl⟩
theorem space(h:Env w a E):Calls Tryz.prog 56 #[.pointer (some ⟨a.eb,0,none⟩)] w fun e w'=>e=.returned (.pointer (some ⟨a.sb,0,none⟩))∧w=w':=by
 obtain⟨c0,_⟩:=cells h;clear h;go_enter func56,ntmps56;go_wp2;go_ret;exact⟨rfl,rfl⟩
theorem cpu(h:Env w a E):Calls Tryz.prog 62 #[.pointer (some ⟨a.eb,0,none⟩)] w fun e w'=>e=.returned (.pointer (some ⟨a.cb,0,none⟩))∧w=w':=by
 obtain⟨_,_,c2,_⟩:=cells h;clear h;go_enter func62,ntmps62;go_wp2;go_ret;exact⟨rfl,rfl⟩
theorem cpu_nil(w:World):Calls Tryz.prog 62 #[.pointer none] w fun e w'=>e=.returned (.pointer none)∧w=w':=by
 go_enter func62,ntmps62;go_wp2;go_ret;exact⟨rfl,rfl⟩
theorem state(h:Env w a E):Calls Tryz.prog 66 #[.pointer (some ⟨a.eb,0,none⟩)] w fun e w'=>e=.returned (.agg #[.int .u8 E.kind,.int .u32 E.code,.int .i64 E.why])∧Below w.heap.size w w':=by
 have hb:Below w.heap.size w (w.alloc (.cells #[.int .u8 0,.int .u32 0,.int .i64 0] 147)):=Ba _;obtain⟨_,_,_,_,c4,c5,c6,_⟩:=cells (h.below hb);have HF:Hid (Below w.heap.size w (w.alloc (.cells #[.int .u8 E.kind,.int .u32 E.code,.int .i64 E.why] 147))):=Lh (Ba _);clear h hb;go_enter func66,ntmps66;go_wp2;refine bodyPost_ret (v:=.agg #[.int .u8 E.kind,.int .u32 E.code,.int .i64 E.why]) (by simp[results,Tryz.results66,go_sem, *]) rfl ?_;exact⟨rfl,HF.out⟩
theorem exit(h:Env w a E)(c:Int):Calls Tryz.prog 119 #[.pointer (some ⟨a.eb,0,none⟩),.int .u32 c] w fun e w'=>e=.returned (.int .i64 E.redE)∧EStep w w' a E a (E.exit c):=by
 have HR:=Lh (ready h)
 by_cases hk:E.kind=2
 ·have e:E.redE=0:=by unfold En.redE;rw[if_neg (by omega)]
  have e2:E.exit c= { E with kind:=3,code:=c,why:=0 }:=by unfold En.exit;rw[if_neg (by omega)]
  have HS:=Lh (EStep.setState h 3 c 0);obtain⟨_,_,_,_,c4,c5,c6,_⟩:=cells h;have f4:=h.free 4;have f5:=h.free 5;have f6:=h.free 6;rw[e] at HR⊢;rw[e2];clear e e2 hk h;go_enter func119,ntmps119;go_wp2_with fail;refine HR.out.mono ?_;rintro e w2 ⟨rfl,rfl⟩;go_wp2;go_ret;exact⟨rfl,HS.out⟩
 ·have e:E.redE=3:=by unfold En.redE;rw[if_pos hk]
  have e2:E.exit c=E:=by unfold En.exit;rw[if_pos hk]
  have HS:=Lh (EStep.refl h);rw[e] at HR⊢;rw[e2];clear e e2 hk h;go_enter func119,ntmps119;go_wp2_with fail;refine HR.out.mono ?_;rintro e w2 ⟨rfl,rfl⟩;go_wp2;go_ret;exact⟨rfl,HS.out⟩
theorem may(h:Env w a E)(x:Int)(x0:0≤x)(x1:x≤4294967295):Calls Tryz.prog 298 #[.pointer (some ⟨a.eb,0,none⟩),.int .u32 x] w fun e w'=>e=.returned (.int .i64 (E.mayE x))∧Below w.heap.size w w':=by
 have HR:=Lh fun w' (hb:Below w.heap.size w w')=>ready (h.below hb)
 have HB:=Lh (Below.refl w.heap.size w)
 by_cases hk:E.kind=2
 ·have e:E.redE=0:=by unfold En.redE;rw[if_neg (by omega)]
  have e2:E.mayE x=if En.mayP x=false then 2 else 0:=by unfold En.mayE;rw[if_neg (by omega)]
  rw[e] at HR;rw[e2];clear e e2 hk h
  by_cases g1:x % 256=0
  ·by_cases g2:x<256
   ·have e:En.mayP x=false:=by unfold En.mayP;simp[g1];omega
    rw[if_pos e];clear e;go_enter func298,ntmps298;go_wp2_with fail;refine(HR.out _ HB.out).mono ?_;rintro e w2 ⟨rfl,rfl⟩;go_wp2;go_ret;exact⟨rfl,HB.out⟩
   ·by_cases g3:1048576≤x
    ·have e:En.mayP x=false:=by unfold En.mayP;simp[g1];omega
     rw[if_pos e];clear e;go_enter func298,ntmps298;go_wp2_with fail;refine(HR.out _ HB.out).mono ?_;rintro e w2 ⟨rfl,rfl⟩;go_wp2;go_ret;exact⟨rfl,HB.out⟩
    ·have e:¬En.mayP x=false:=by unfold En.mayP;simp[g1];omega
     rw[if_neg e];clear e;go_enter func298,ntmps298;go_wp2_with fail;refine(HR.out _ HB.out).mono ?_;rintro e w2 ⟨rfl,rfl⟩;go_wp2;go_ret;exact⟨rfl,HB.out⟩
  ·have e:En.mayP x=false:=by unfold En.mayP;simp[g1]
   rw[if_pos e];have g1b:(x % 256 != 0)=true:=bne_iff_ne.2 g1;clear e;go_enter func298,ntmps298;go_wp2_with fail;refine(HR.out _ HB.out).mono ?_;rintro e w2 ⟨rfl,rfl⟩;go_wp2;go_ret;exact⟨rfl,HB.out⟩
 ·have e:E.redE=3:=by unfold En.redE;rw[if_pos hk]
  have e2:E.mayE x=3:=by unfold En.mayE;rw[if_pos hk]
  rw[e] at HR;rw[e2];clear e e2 hk h;go_enter func298,ntmps298;go_wp2_with fail;refine(HR.out _ HB.out).mono ?_;rintro e w2 ⟨rfl,rfl⟩;go_wp2;go_ret;exact⟨rfl,HB.out⟩
end
end Ev
open Go.RowKit Word
namespace Cp
open Kp (Ok)
inductive Chg (A:List Pg) (r:List Int) (pc:Int) (o:Out):Prop
 |none (hA:o.A=A) (hr:o.r=r) (hp:o.kind=2→o.pc=pc)
 |reg (hk:o.kind≠2) (hA:o.A=A) (d:Nat) (hd:d<16) (v:Int) (hr:o.r=putG r d v)
 |mem (hk:o.kind≠2) (hr:o.r=r) (at':Int) (a0:0≤at') (s:ByteArray) (hs:s.size≤4) (hf:Sp.fitsB A at' s.size 2=true) (hA:o.A=putN A at' (nums s) s.size)
theorem putL_bd(v:Int)(h0:0≤v)(h1:v≤4294967295):∀x,x∈putL v→0≤x∧x<256:=by
 intro x hx;simp only[putL,List.mem_cons,List.not_mem_nil,or_false] at hx;rcases hx with rfl|rfl|rfl|rfl<;>omega
theorem chg_stores{A:List Pg}{r:List Int}(hr:Regs r)(pc:Int)(x:Ins)(n:Nat)(hn:n≤4):Chg A r pc (stores A r pc x n):=by
 unfold stores
 split
 ·rename_i h
  have hb:=rg_bd hr x.b;have hl:((putL (rg r x.b)).take n).length=n:=by rw[List.length_take];simp[putL];omega
  have hbd:∀y,y∈(putL (rg r x.b)).take n→0≤y∧y<256:=fun y hy=>putL_bd _ hb.1 hb.2 y (List.mem_of_mem_take hy)
  refine .mem (by simp[goes]) rfl (addr r x) (Int.emod_nonneg _ (by omega)) (strOfNums ((putL (rg r x.b)).take n)) (by rw[size_strOfNums,hl];exact hn) (by rw[size_strOfNums,hl];exact h) ?_;rw[size_strOfNums,hl,nums_strOfNums _ hbd];rfl
 ·exact .none rfl rfl fun _=>rfl
theorem chg_loads{A:List Pg}{r:List Int}(pc:Int)(x:Ins)(n:Nat)(hd:∃d:Nat,d<16∧x.d=d):Chg A r pc (loads A r pc x n):=by
 obtain⟨d,hd,e⟩:=hd;unfold loads
 split
 ·exact .reg (by simp[goes]) rfl d hd _ (by rw[←e];rfl)
 ·exact .none rfl rfl fun _=>rfl
theorem chg_exe{A:List Pg}{r:List Int}(hr:Regs r)(pc:Int)(x:Ins)(hd:∃d:Nat,d<16∧x.d=d):Chg A r pc (exe A r pc x):=by
 obtain⟨d,hd16,e⟩:=hd;unfold exe
 by_cases c0:x.op≤14
 ·rw[if_pos c0];exact .reg (by simp[goes]) rfl d hd16 _ (by rw[←e];rfl)
 rw[if_neg c0]
 by_cases c1:x.op≤30
 ·rw[if_pos c1];exact .reg (by simp[goes]) rfl d hd16 _ (by rw[←e];rfl)
 rw[if_neg c1]
 by_cases c2:x.op=32
 ·rw[if_pos c2];exact .reg (by simp[goes]) rfl d hd16 _ (by rw[←e];rfl)
 rw[if_neg c2]
 by_cases c3:x.op=33
 ·rw[if_pos c3];exact chg_loads _ _ _ ⟨d,hd16,e⟩
 rw[if_neg c3]
 by_cases c4:x.op=34
 ·rw[if_pos c4];exact chg_loads _ _ _ ⟨d,hd16,e⟩
 rw[if_neg c4]
 by_cases c5:x.op=35
 ·rw[if_pos c5];exact chg_stores hr _ _ _ (by omega)
 rw[if_neg c5]
 by_cases c6:x.op=36
 ·rw[if_pos c6];exact chg_stores hr _ _ _ (by omega)
 rw[if_neg c6]
 by_cases c7:x.op=40
 ·rw[if_pos c7];exact .none rfl rfl fun g=>absurd g (by simp[goes])
 rw[if_neg c7]
 by_cases c8:x.op=41
 ·rw[if_pos c8];exact .reg (by simp[goes]) rfl d hd16 _ (by rw[←e];rfl)
 rw[if_neg c8]
 by_cases c9:x.op=42
 ·rw[if_pos c9];exact .none rfl rfl fun g=>absurd g (by simp[goes])
 rw[if_neg c9]
 by_cases c10:x.op=43
 ·rw[if_pos c10];exact .none rfl rfl fun g=>absurd g (by simp[goes])
 rw[if_neg c10]
 by_cases c11:x.op=44
 ·rw[if_pos c11];exact .none rfl rfl fun g=>absurd g (by simp[goes])
 rw[if_neg c11]
 by_cases c12:x.op=45
 ·rw[if_pos c12];exact .none rfl rfl fun g=>absurd g (by simp[goes])
 rw[if_neg c12]
 by_cases c13:x.op=46
 ·rw[if_pos c13];exact .none rfl rfl fun g=>absurd g (by simp[goes])
 rw[if_neg c13];exact .none rfl rfl fun g=>absurd g (by simp)
theorem chg_stp{A:List Pg}{r:List Int}(hr:Regs r)(pc:Int):Chg A r pc (stp A r pc):=by
 unfold stp
 split
 ·split
  ·rename_i hd
   have hm:=Ins.decB_may hd;have hok:=Ins.decI_ok (Ins.decB_size hd);have hsm:=Ins.may_small hm hok;generalize Ins.decI (strOfNums (Sp.getL A pc 8))=x at*;obtain⟨d0,d1,_⟩:=hsm;obtain⟨d,hd⟩:=Int.eq_ofNat_of_zero_le d0;exact chg_exe hr pc x ⟨d,by omega,hd⟩
  ·exact .none rfl rfl fun _=>rfl
 ·exact .none rfl rfl fun _=>rfl
end Cp
open Go.RowKit Word
namespace Ev
section
variable {w:World} {a:EAt} {E:En}
theorem addrs_set(A:List Pg)(x v:Int):(setByte A x v).map Pg.addr=A.map Pg.addr:=by
 unfold setByte;rw[List.map_map];exact List.map_congr_left fun p _=>setPg_addr x v p
theorem addrs_putN(A:List Pg)(addr:Int)(xs:List Int):∀k,(putN A addr xs k).map Pg.addr=A.map Pg.addr
 |0=>rfl
 |k+1=>(addrs_set _ _ _).trans (addrs_putN A addr xs k)
theorem addrs_stp{A:List Pg}{r:List Int}(hr:Cp.Regs r)(pc:Int):(Cp.stp A r pc).A.map Pg.addr=A.map Pg.addr:=by
 cases Cp.chg_stp (A:=A) hr pc with
 |none hA=>rw[hA]
 |reg _ hA=>rw[hA]
 |mem _ _ at' _ s _ _ hA=>rw[hA];exact addrs_putN _ _ _ _
theorem step(h:Env w a E):Calls Tryz.prog 67 #[.pointer (some ⟨a.eb,0,none⟩)] w fun e w'=>e=.returned (.tuple #[.agg #[.int .u8 E.stop.1,.int .u32 E.stop.2.1,.int .i64 E.stop.2.2],.int .i64 E.redE])∧EStep w w' a E a E.step:=by
 have hbx:Below w.heap.size w (w.alloc (.cells #[.int .u8 0,.int .u32 0,.int .i64 0] 175)):=Ba _;have HR:=Lh (ready (h.below hbx))
 by_cases hk:E.kind=2
 ·have e:E.redE=0:=by unfold En.redE;rw[if_neg (by omega)]
  rw[e] at HR⊢;have e1:E.stop=((Cp.stp E.A E.r E.pc).kind,(Cp.stp E.A E.r E.pc).num,(Cp.stp E.A E.r E.pc).why):=by unfold En.stop;rw[if_neg (by omega)]
  have hrs:Hid ((w.alloc (.cells #[.int .u8 0,.int .u32 0,.int .i64 0] 175)).heap[w.heap.size]? =some (.cells #[.int .u8 0,.int .u32 0,.int .i64 0] 175 (0,0))):=Lh (heap_alloc_new w _);have HW:=Lh (h.below hbx);have HWs:=Lh (EStep.of_below h hbx);have Hsz:Hid ((w.alloc (.cells #[.int .u8 0,.int .u32 0,.int .i64 0] 175)).heap.size=w.heap.size+1):=Lh (by simp);have HL:Hid (∀k,a.foot E.A k→k<w.heap.size):=Lh h.lt;have ea:=addrs_stp (A:=E.A) h.cp.regs E.pc;have eb:=Cp.blks_stp E.A E.r E.pc;have e2:E.step=if(Cp.stp E.A E.r E.pc).kind=2 then { E with A:=(Cp.stp E.A E.r E.pc).A,r:=(Cp.stp E.A E.r E.pc).r,pc:=(Cp.stp E.A E.r E.pc).pc,kind:=4,code:=0,why:=(Cp.stp E.A E.r E.pc).why } else { E with A:=(Cp.stp E.A E.r E.pc).A,r:=(Cp.stp E.A E.r E.pc).r,pc:=(Cp.stp E.A E.r E.pc).pc }:=by unfold En.step;rw[if_neg (by omega)]
  have hst:∀V,Env V a E→Calls Tryz.prog 117 #[.pointer (some ⟨a.cb,0,none⟩),.pointer (some ⟨a.sb,0,none⟩)] V (fun e w'=>e=.returned (.agg #[.int .u8 (Cp.stp E.A E.r E.pc).kind,.int .u32 (Cp.stp E.A E.r E.pc).num,.int .i64 (Cp.stp E.A E.r E.pc).why])∧Cpu 155 w' a.cb (Cp.stp E.A E.r E.pc).r (Cp.stp E.A E.r E.pc).pc∧Spc w' a.sb a.mb (Cp.stp E.A E.r E.pc).A∧Mod (fun k=>k=a.cb∨Sp.pgBlk E.A k) V w'):=fun V hV=>Cp.step hV.cp hV.sp hV.cs
  rw[e1,e2];clear e e1 e2;generalize Cp.stp E.A E.r E.pc=o at*;obtain⟨kind,num,why,r2,pc2,A2⟩:=o;simp only at ea eb hst⊢;have HSt:=Lh hst;have HEa:=Lh ea;have HEb:=Lh eb;clear hst ea eb hbx hk h;go_enter func67,ntmps67;go_wp2_with fail;refine HR.out.mono ?_;rintro e w2 ⟨rfl,rfl⟩;clear HR;generalize hWW:w.alloc (.cells #[.int .u8 0,.int .u32 0,.int .i64 0] 175)=W at*;have HHW:=Lh hWW;clear hWW;obtain⟨c0,_,c2,_,_,_,_,_⟩:=cells HW.out;have cA:=fun o=>cells (HW.out.below ((Below.refl _ W).alloc (Nat.le_refl _) o))
  have cA0:=fun o=>(cA o).1
  have cA2:=fun o=>(cA o).2.2.1
  have HBd:Hid (∀o,Below W.heap.size W (W.alloc o)):=Lh fun o=>Br.alloc (Nat.le_refl _) o
  have HBx:Hid (∀V V':World,V.heap[W.heap.size]? =some (.cells #[.int .u8 0,.int .u32 0,.int .i64 0] 175 (0,0))→Mod (fun k=>k=a.cb∨Sp.pgBlk E.A k) V V'→StpBox V' W.heap.size 0 0 0):=Lh fun V V' hV hm=>StpBox.mod ⟨hV⟩ hm (by
   rintro(g|g)
   ·have:=HW.out.cp.lt;omega
   ·have:=HW.out.sp.lt (.inr (.inr g));omega)
  have HN:Hid (∀A',Cp.blks A'=Cp.blks E.A→¬a.foot A' W.heap.size):=Lh fun A' e g=>by
   have hlt:=HL.out;have:a.foot E.A W.heap.size:=by
    rcases g with q|q|q|q
    ·exact .inl q
    ·exact .inr (.inl q)
    ·exact .inr (.inr (.inl ((Cp.foot_iff e).1 q)))
    ·exact .inr (.inr (.inr q))
   have:=hlt _ this;have:=Hsz.out;omega
  clear cA;go_upto_region 4 with fail;go_cut [5] (fun s5 wx=>∃B:Nat,s5=.pointer (some ⟨B,0,none⟩)∧StpBox wx B kind num why∧W.heap.size≤B∧EStep W wx a E a { E with A:=A2,r:=r2,pc:=pc2 })
  case first=>
   go_region_with (
           go_at_call 117
           first
            |(
              have hbV:=Below.refl W.heap.size W
              (with_reducible refine(HSt.out _ (HW.out.below hbV)).mono ?_)
              rintro e w3 ⟨rfl,hc3,hs3,hm3⟩;have HS3:=Lh ((EStep.cpu (HW.out.below hbV) hc3 hs3 HEb.out HEa.out hm3).pre hbV))
            |(
              have hbV:=(Below.refl W.heap.size W).drew
              (with_reducible refine(HSt.out _ (HW.out.below hbV)).mono ?_)
              rintro e w3 ⟨rfl,hc3,hs3,hm3⟩;have HS3:=Lh ((EStep.cpu (HW.out.below hbV) hc3 hs3 HEb.out HEa.out hm3).pre hbV))
            |(
              have hbV:=HBd.out (.cells #[.int .u8 0,.int .u32 0,.int .i64 0] 175)
              (with_reducible refine(HSt.out _ (HW.out.below hbV)).mono ?_)
              rintro e w3 ⟨rfl,hc3,hs3,hm3⟩;have HS3:=Lh ((EStep.cpu (HW.out.below hbV) hc3 hs3 HEb.out HEa.out hm3).pre hbV);have HB3:=Lh (HBx.out _ _ (by exact heap_alloc_new W _) hm3);obtain⟨t0,t1,t2,f0,f1,f2⟩:=HB3.out.cells)
            |(
              have hbV:=(HBd.out (.cells #[.int .u8 0,.int .u32 0,.int .i64 0] 175)).drew
              (with_reducible refine(HSt.out _ (HW.out.below hbV)).mono ?_)
              rintro e w3 ⟨rfl,hc3,hs3,hm3⟩;have HS3:=Lh ((EStep.cpu (HW.out.below hbV) hc3 hs3 HEb.out HEa.out hm3).pre hbV);have HB3:=Lh (HBx.out _ _ (by exact heap_alloc_new W _) hm3);obtain⟨t0,t1,t2,f0,f1,f2⟩:=HB3.out.cells))
   all_goals go_wp2_with fail
   all_goals go_meet
   all_goals first
    |exact⟨_,rfl,⟨heap_alloc_new w3 _⟩,HS3.out.mod.size,HS3.out.below (Ba _)⟩
    |exact⟨_,rfl,HB3.out.set _ _ _,Nat.le_refl _,HS3.out.turn (stp_mod _ _ _ _ _) (fun k hk=>by subst hk;exact⟨HN.out _ HEb.out,Nat.le_refl _⟩)⟩
  case rest=>
   obtain⟨B,rfl,hbx,hB,hes⟩:=hcut;have hnf:¬a.foot A2 w.heap.size:=fun g=>by
    rcases hes.foot _ g with q|q
    ·have hh:=HL.out;have:=hh _ q;omega
    ·have:=Hsz.out;omega
   have hr:StpBox wc w.heap.size 0 0 0:=⟨(hes.mod.block _ (by have:=Hsz.out;omega) (fun g=>by have hh:=HL.out;have:=hh _ g;omega)).trans hrs.out⟩;have hBe:B≠a.eb:=fun e=>by have hh:=HL.out;have:=hh _ (.inl rfl:a.foot E.A a.eb);have:=Hsz.out;omega
   have hBw:B≠w.heap.size:=fun e=>by have:=Hsz.out;omega
   have hwe:w.heap.size≠a.eb:=fun e=>by have hh:=HL.out;have:=hh _ (.inl rfl:a.foot E.A a.eb);omega
   have HE:=Lh (HWs.out.trans hes);have HNf:=Lh hnf;have HLw:Hid (w.heap.size≤w.heap.size):=Lh (Nat.le_refl _);clear c0 c2 cA0 cA2 HN HBx HBd HW HWs HHW hes hB hnf hrs HL HSt HEa HEb Hsz
   by_cases h2:kind=2
   ·subst h2;obtain⟨_,_,_,_,k4,k5,k6,_⟩:=cells HE.out.env;have f4:=HE.out.env.free 4;have f5:=HE.out.env.free 5;have f6:=HE.out.env.free 6;have hm:Mod (fun i=>i=a.eb) wc (((wc.setCell ⟨a.eb,4,none⟩ (.int .u8 4)).setCell ⟨a.eb,5,none⟩ (.int .u32 0)).setCell ⟨a.eb,6,none⟩ (.int .i64 why)):=Mod.setCell (F:=fun i=>i=a.eb) (Mod.setCell (F:=fun i=>i=a.eb) (Mod.setCell (F:=fun i=>i=a.eb) (Mod.refl _ _) ⟨a.eb,4,none⟩ (.inl rfl) _) ⟨a.eb,5,none⟩ (.inl rfl) _) ⟨a.eb,6,none⟩ (.inl rfl) _;obtain⟨t0,t1,t2,_,_,_⟩:=hbx.cells;obtain⟨y0,y1,y2,_,_,_⟩:=(hbx.mod hm hBe).cells;obtain⟨r0,r1,r2',g0,g1,g2⟩:=(hr.mod hm hwe).cells;have HF:=Lh ((HE.out.trans (EStep.setState HE.out.env 4 0 why)).turn (stp_mod _ w.heap.size (.int .u8 2) (.int .u32 num) (.int .i64 why)) (fun k hk=>by subst hk;exact⟨HNf.out,HLw.out⟩));have HR2:=Lh (hr.mod hm hwe);clear hm hbx hr HE;go_wp2;obtain⟨v0,v1,v2,_,_,_⟩:=(HR2.out.set 2 num why).cells;refine bodyPost_ret (v:=.tuple #[.agg #[.int .u8 2,.int .u32 num,.int .i64 why],.int .i64 0]) (by simp[results,Tryz.results67,go_sem, *]) rfl ?_;exact⟨rfl,HF.out⟩
   ·have H2:=Lh h2;have hkb:(kind == 2)=false:=beq_eq_false_iff_ne.2 h2;obtain⟨t0,t1,t2,_,_,_⟩:=hbx.cells;obtain⟨r0,r1,r2',g0,g1,g2⟩:=hr.cells;have HF:=Lh (HE.out.turn (stp_mod _ w.heap.size (.int .u8 kind) (.int .u32 num) (.int .i64 why)) (fun k hk=>by subst hk;exact⟨HNf.out,HLw.out⟩));have HR2:=Lh hr;clear hbx hr HE;go_wp2;obtain⟨v0,v1,v2,_,_,_⟩:=(HR2.out.set kind num why).cells;refine bodyPost_ret (v:=.tuple #[.agg #[.int .u8 kind,.int .u32 num,.int .i64 why],.int .i64 0]) (by simp[results,Tryz.results67,go_sem, *]) rfl ?_;exact⟨rfl,HF.out⟩
 ·have e:E.redE=3:=by unfold En.redE;rw[if_pos hk]
  have e2:E.stop=(0,0,0):=by unfold En.stop;rw[if_pos hk]
  have e3:E.step=E:=by unfold En.step;rw[if_pos hk]
  have HS:=Lh (EStep.of_below h hbx);rw[e] at HR⊢;rw[e2,e3];clear e e2 e3 hk h hbx;go_enter func67,ntmps67;go_wp2_with fail;refine HR.out.mono ?_;rintro e w2 ⟨rfl,rfl⟩;go_wp2;refine bodyPost_ret (v:=.tuple #[.agg #[.int .u8 0,.int .u32 0,.int .i64 0],.int .i64 3]) (by simp[results,Tryz.results67,go_sem, *]) rfl ?_;exact⟨rfl,HS.out⟩
end
end Ev
open Go.RowKit Word
structure Duo(w0 w:World)(cb sb mb:Nat)(A:List Pg)(rc:List Int)(pcc:Int)(db rb:Nat)(lv:Value)(R:List Rp)(rd:List Int)(pcd:Int):Prop where
 cp:Cpu 155 w cb rc pcc
 dp:Cpu 198 w db rd pcd
 pair:Pair w sb mb A rb lv R
 bel:Below w0.heap.size w0 w
 c0:w0.heap.size≤cb
 d0:w0.heap.size≤db
 a0:∀k,Spc.foot sb mb A k→w0.heap.size≤k
 r0:∀k,Rsp.foot rb lv R k→w0.heap.size≤k
 cd:cb≠db
 ca:¬Spc.foot sb mb A cb
 cr:¬Rsp.foot rb lv R cb
 da:¬Spc.foot sb mb A db
 dr:¬Rsp.foot rb lv R db
namespace Duo
variable {w0 w w':World} {cb sb mb:Nat} {A A':List Pg} {rc rc':List Int} {pcc pcc':Int} {db rb:Nat} {lv lv':Value} {R R':List Rp} {rd rd':List Int} {pcd pcd':Int}
theorem below(h:Duo w0 w cb sb mb A rc pcc db rb lv R rd pcd)(hb:Below w.heap.size w w'):Duo w0 w' cb sb mb A rc pcc db rb lv R rd pcd:=
 { h with cp:=h.cp.below hb,dp:=h.dp.below hb,pair:=h.pair.below hb,bel:=h.bel.trans (hb.mono h.bel.size) }
theorem setC(h:Duo w0 w cb sb mb A rc pcc db rb lv R rd pcd)(hc:Cpu 155 w' cb rc' pcc')(hm:Mod (fun k=>k=cb) w w'):Duo w0 w' cb sb mb A rc' pcc' db rb lv R rd pcd:=
 { h with
      cp:=hc,dp:=h.dp.keep hm (fun g=>h.cd g.symm),pair:=⟨h.pair.sp.keep hm (fun k hk g=>h.ca (g▸hk)),h.pair.rp.keep hm (fun k hk g=>h.cr (g▸hk)),h.pair.apart⟩,
      bel:=hm.below h.bel h.bel.size (fun i _ hi=>hi▸h.c0) }
theorem setD(h:Duo w0 w cb sb mb A rc pcc db rb lv R rd pcd)(hd:Cpu 198 w' db rd' pcd')(hm:Mod (fun k=>k=db) w w'):Duo w0 w' cb sb mb A rc pcc db rb lv R rd' pcd':=
 { h with
      cp:=h.cp.keep hm h.cd,dp:=hd,pair:=⟨h.pair.sp.keep hm (fun k hk g=>h.da (g▸hk)),h.pair.rp.keep hm (fun k hk g=>h.dr (g▸hk)),h.pair.apart⟩,
      bel:=hm.below h.bel h.bel.size (fun i _ hi=>hi▸h.d0) }
theorem left(h:Duo w0 w cb sb mb A rc pcc db rb lv R rd pcd)(s:SStep w w' sb mb A A'):Duo w0 w' cb sb mb A' rc pcc db rb lv R rd pcd:=
 { h with
      cp:=h.cp.keep s.mod h.ca,dp:=h.dp.keep s.mod h.da,pair:=h.pair.left s,bel:=s.mod.below h.bel h.bel.size (fun i _ hi=>h.a0 i hi),
      a0:=fun k hk=>(s.foot k hk).elim (h.a0 k) fun g=>Nat.le_trans h.bel.size g,
      ca:=fun g=>(s.foot _ g).elim h.ca fun g=>by have:=h.cp.lt;omega,
      da:=fun g=>(s.foot _ g).elim h.da fun g=>by have:=h.dp.lt;omega }
theorem right(h:Duo w0 w cb sb mb A rc pcc db rb lv R rd pcd)(s:RStep w w' rb lv R lv' R'):Duo w0 w' cb sb mb A rc pcc db rb lv' R' rd pcd:=
 { h with
      cp:=h.cp.keep s.mod h.cr,dp:=h.dp.keep s.mod h.dr,pair:=h.pair.right s,bel:=s.mod.below h.bel h.bel.size (fun i _ hi=>h.r0 i hi),
      r0:=fun k hk=>(s.foot k hk).elim (h.r0 k) fun g=>Nat.le_trans h.bel.size g,
      cr:=fun g=>(s.foot _ g).elim h.cr fun g=>by have:=h.cp.lt;omega,
      dr:=fun g=>(s.foot _ g).elim h.dr fun g=>by have:=h.dp.lt;omega }
theorem weaken{w00:World}(h:Duo w0 w cb sb mb A rc pcc db rb lv R rd pcd)(hb:Below w00.heap.size w00 w0):Duo w00 w cb sb mb A rc pcc db rb lv R rd pcd:=
 { h with bel:=hb.trans (h.bel.mono hb.size),c0:=Nat.le_trans hb.size h.c0,d0:=Nat.le_trans hb.size h.d0,a0:=fun k hk=>Nat.le_trans hb.size (h.a0 k hk),r0:=fun k hk=>Nat.le_trans hb.size (h.r0 k hk) }
end Duo
namespace Cp
def regsK(xs:Nat→Int)(k:Nat):List Int:=(List.range 16).map fun i=>if 0<i∧i<k then xs i else 0
theorem regsK_zero(xs:Nat→Int):regsK xs 0=List.replicate 16 0:=rfl
theorem regsK_succ(xs:Nat→Int)(k:Nat)(hk:k<16):putG (regsK xs k) k (xs k)=regsK xs (k+1):=by
 by_cases h0:k=0
 ·subst h0;rfl
 ·rw[putG_nat _ _ _ h0]
  apply List.ext_getElem?
  intro n;unfold regsK
  by_cases hn:n<16
  ·rw[List.getElem?_set];simp only[List.length_map,List.length_range,List.getElem?_map,List.getElem?_range hn,Option.map_some]
   by_cases e:k=n
   ·subst e;rw[if_pos rfl,if_pos hk,if_pos (by omega)]
   ·rw[if_neg e]
    by_cases g:0<n∧n<k
    ·rw[if_pos g,if_pos (by omega)]
    ·rw[if_neg g,if_neg (by omega)]
  ·rw[List.getElem?_eq_none (by simp;omega),List.getElem?_eq_none (by simp;omega)]
def pgsK(ps:Nat→Int):Nat→List Pg
 |0=>[]
 |k+1=>if ps k<8 then Sp.mapA (pgsK ps k) (k*256) 0 (ps k) else pgsK ps k
theorem pgsK_addr(ps:Nat→Int):∀(k:Nat) (p:Pg),p∈pgsK ps k→p.addr<k*256∧p.addr % 256=0
 |0,p,h=>by cases h
 |k+1,p,h=>by
  unfold pgsK at h
  split at h
  ·unfold Sp.mapA at h
   split at h
   ·rcases mem_insPg.1 h with rfl|g
    ·show((k:Int)*256)<((k+1:Nat):Int)*256∧((k:Int)*256) % 256=0
     omega
    ·have:=pgsK_addr ps k p g;omega
   ·have:=pgsK_addr ps k p h;omega
  ·have:=pgsK_addr ps k p h;omega
theorem pgsK_free(ps:Nat→Int)(k:Nat)(hk:k≤16)(h0:0≤ps k)(h8:ps k<8):Sp.mapE (pgsK ps k) (k*256) (ps k)=0:=by
 have hm:Sp.mayB ((k:Int)*256)=true:=by unfold Sp.mayB;rw[Bool.and_eq_true];exact⟨beq_iff_eq.2 (by omega),decide_eq_true (by omega)⟩
 have hn:pageAt (pgsK ps k) ((k:Int)*256)=none:=by
  unfold pageAt;rw[show((k:Int)*256) - (k:Int)*256 % 256=(k:Int)*256 by omega];refine atAddr_eq_none fun q hq=> ?_
  have:=pgsK_addr ps k q hq;omega
 unfold Sp.mapE;rw[if_neg (by rw[hm];rintro(g|g);cases g;omega),hn];rfl
def madeA(ps:Nat→Int)(np:Nat)(at':Int)(s:ByteArray)(wh:Int)(t:ByteArray):List Pg:=Sp.putA (Sp.putA (pgsK ps np) (at' % 4096) 0 s) (wh % 4096) 0 t
end Cp
end Go.Proofs.YtnpicaigdfnmfaaGreat
namespace Go.Proofs.YtnpicaigdfnmfaaGreat.WordRef
open Go.RowKit Word
theorem info_u8:(Tryz.prog.info? 5).map (fun i=>(i.zero,i.size,i.bytes))=some (some (.int .u8 0),1,1):=by kernel_rfl
theorem putL_next(v:Int)(k:Nat)(h0:0≤v)(h1:v≤4294967295)(hk:k<4):(putL v).take (k+1)=(putL v).take k++[v / 256 ^ k % 256]:=by
 have:k=0∨k=1∨k=2∨k=3:=by omega
 rcases this with rfl|rfl|rfl|rfl
 ·simp[putL]
 ·simp[putL]
 ·simp[putL]
 ·simp[putL];omega
theorem div256(v:Int)(k:Nat):v / 256 ^ k / 256=v / 256 ^ (k+1):=by
 rw[Int.ediv_ediv_of_nonneg (Int.le_of_lt (Int.pow_pos (by omega))),Int.pow_succ]
theorem putL_len(v:Int)(k:Nat)(hk:k≤4):((putL v).take k).length=k:=by rw[List.length_take];simp[putL];omega
def bytesRel(v:Int)(n:Nat)(W:World)(sv sb si:Value)(wr:World):Prop:=
 ∃(k:Nat) (x:Int),k≤n∧si=.int .i64 k∧sv=.int .u32 x∧0≤x∧x≤4294967295∧x=v / 256 ^ k∧Buf wr W.heap.size 5 sb ((putL v).take k)∧Below W.heap.size W wr
theorem Bytes(v:Int)(n:Nat)(hn:n≤4)(h0:0≤v)(h1:v≤4294967295)(w:World):
  Calls Tryz.prog 178 #[.int .u32 v,.int .i64 n] w fun e w'=>e=.returned (.string (putS v n))∧Below w.heap.size w w':=by
 obtain⟨i0,hi,hz0,hz1,hz2⟩:=info_parts info_u8;have Hi:=Lh hi;have Hz0:=Lh hz0;have Hz1:=Lh hz1;have Hz2:=Lh hz2;clear hi hz0 hz1 hz2;go_enter func178,ntmps178;go_wp2;go_loopw [0,5,6] (fun sv sb si wr=>bytesRel v n w sv sb si wr) (fun _ _ i _=>n - (intOf i).toNat)
 case atStart=>exact⟨0,v,by omega,rfl,rfl,h0,h1,by simp,Buf.nil _ _ _,Below.refl _ _⟩
 case round=>
  obtain⟨k,x,hk,rfl,rfl,x0,x1,hx,hbuf,hbel⟩:=hrel;obtain⟨L,hL⟩:∃L,(putL v).take k=L:=⟨_,rfl⟩;rw[hL] at hbuf;have Ho:=Lh hbuf;have Hb:=Lh hbel;have hbase:=hbel.size
  by_cases hk2:k<n
  ·have Hx:=Lh hx;have Hn:=Lh (putL_next v k h0 h1 (by omega));have Hl:=Lh (show L.length=k by rw[←hL];exact putL_len v k (by omega));have HL:=Lh hL;clear hx hbuf hbel hL;go_wp2_with (at_builtin;refine wpList_append_lies _ (by rfl) _ _ _ (by rfl) (w.heap.size) 5 i0 (.int .u8 0) 1 1 Tryz.underlying43 Hi.out Hz0.out Hz1.out Hz2.out rfl (by omega) u5 _ _ (by rfl) (World.ownsRow.alloc Ho.out _) ⟨wr.heap.size,0,none⟩ 1 1 [.int .u8 (x % 256)] (by rfl) (by rfl) (World.news_of_block (cs:= #[.int .u8 (x % 256)]) (t:=5) (fr:=(0,0)) (heap_alloc_new wr _)) (fun x hx=>by simp at hx;subst hx;rfl) (by omega) (by rw[Hl.out];unfold maxLen;omega) (by rw[Hl.out];omega) (by simp;omega) (wr.heap.size+1) (by simp) ?_;intro gg cap' w' hown' hgro hat hlt);refine⟨⟨k+1,x / 256,by omega,by go_num,rfl,by omega,by omega,by rw[Hx.out];exact div256 v k, ?_, ?_⟩,by simp[intOf];omega⟩
   ·rw[Hn.out,←Hx.out,HL.out];exact Buf.app hown'
   ·exact(Hb.out.alloc hbase _).grown hgro (by simp;omega) (fun k hk=>Buf.lt Ho.out k hk)
  ·obtain rfl:k=n:=by omega
   have hcs:=Buf.string (P:=Tryz.prog) Ho.out 43 9 Tryz.underlying43 Tryz.underlying5 Tryz.underlying9;have HL:=Lh hL;clear hx hbuf hbel hL;go_wp2;go_ret;exact⟨ret_str (by rw[←HL.out];rfl),Hb.out⟩
end Go.Proofs.YtnpicaigdfnmfaaGreat.WordRef
namespace Go.Proofs.YtnpicaigdfnmfaaGreat
open Go.RowKit
section
variable {P:Program} {ops:Array Oper} {Q:Exit→Act→World→Prop} {md:Region.Mode} {S:World→Prop} {last:Nat}
def waitsFor(md:Region.Mode)(ops:Array Oper)(last i:Nat):Bool:=match ops[last]? with|some o=>o.after.any fun e=>Region.binds md e&&e.on == i|none=>false
def AnyE(P:Program)(md:Region.Mode)(ops:Array Oper)(Q:Exit→Act→World→Prop)(S:World→Prop)(last:Nat):Nat→Array Bool→Act→World→Prop
 |0,listed,a,w=>Region.ready md ops listed=[]∧Q .normal a w
 |fuel+1,listed,a,w=>
  (Region.ready md ops listed=[]→Q .normal a w)∧
  ∀i∈Region.ready md ops listed,wpOp P ops Q i (fun a' w'=>(i≠last→S w')∧AnyE P md ops Q S last fuel (listed.setIfInBounds i true) a' w') a w
theorem any_of_E:∀(fuel:Nat) (listed:Array Bool) (a:Act) (w:World),AnyE P md ops Q S last fuel listed a w→wpAny P md ops Q fuel listed a w
 |0,_,_,_,h=>h
 |fuel+1,_,_,_,h=>⟨h.1,fun i hi=>wpOp_mono (fun a' w' h'=>any_of_E fuel _ a' w' h'.2) (h.2 i hi)⟩
theorem last_waits{i:Nat}(hw:waitsFor md ops last i=true){listed:Array Bool}(hi:i∈Region.ready md ops listed){j:Nat}(hj:j∈Region.ready md ops listed):j≠last:=by
 rintro rfl;obtain⟨_,oj,hoj,hall⟩:=mem_ready.1 hj;unfold waitsFor at hw;rw[hoj] at hw;simp only[Array.any_eq_true'] at hw;obtain⟨e,he,hb⟩:=hw;simp only[Bool.and_eq_true,beq_iff_eq] at hb;have h1:=hall e he hb.1;have h0:=(mem_ready.1 hi).1;rw[hb.2] at h1;rcases Nat.lt_or_ge i listed.size with h'|h'
 ·simp[h'] at h0 h1;rw[h0] at h1;cases h1
 ·simp[Array.getElem?_eq_none h'] at h1
theorem E_first{i:Nat}{oi:Oper}{v:Value}(hi:ops[i]? =some oi)(hsel:∀(j:Nat) (o:Oper) cs b,ops[j]? =some o→o.op≠ .select cs b)
  (hQ:∀c a w,Q (.panic c) (a.put oi.dst v) w→Q (.panic c) a w) (hwt:waitsFor md ops last i=true):
  ∀(fuel:Nat) (listed:Array Bool) (a:Act) (w:World),
   (∀j oj,ops[j]? =some oj→j≠i→listed.getD j true=false→(∀e∈oj.after,Region.binds md e=true→e.on≠i)→oi.apart ops oj=true)→
   i∈Region.ready md ops listed→YieldsIf P ops S oi v a→S w→
   AnyE P md ops Q S last fuel (listed.setIfInBounds i true) (a.put oi.dst v) w→AnyE P md ops Q S last (fuel+1) listed a w:=by
 intro fuel
 induction fuel with
 |zero=>
  intro listed a w _ hr hy hS H;refine⟨fun h=>(by rw[h] at hr;cases hr),fun j hj=> ?_⟩
  by_cases hji:j=i
  ·subst hji;exact hy.wpOp hi hS ⟨fun _=>hS,H⟩
  ·have:=ready_mono hj hji;rw[H.1] at this;cases this
 |succ fuel ih=>
  intro listed a w hfree hr hy hS H;refine⟨fun h=>(by rw[h] at hr;cases hr),fun j hj=> ?_⟩
  by_cases hji:j=i
  ·subst hji;exact hy.wpOp hi hS ⟨fun _=>hS,H⟩
  ·have hjl:=last_waits hwt hr hj;have h1:=H.2 j (ready_mono hj hji);obtain⟨hjun,oj,hoj,hall⟩:=mem_ready.1 hj;have hnot:∀e∈oj.after,Region.binds md e=true→e.on≠i:=fun e he hb heq=>by
    have h1:=hall e he hb;have h0:=(mem_ready.1 hr).1;rw[heq] at h1;rcases Nat.lt_or_ge i listed.size with h'|h'
    ·simp[h'] at h0 h1;rw[h0] at h1;cases h1
    ·simp[Array.getElem?_eq_none h'] at h1
   have h2:=wpOp_putIf hoj (hfree j oj hoj hji hjun hnot) (fun cs b=>hsel i oi cs b hi) (fun cs b=>hsel j oj cs b hoj) hQ hy h1;have hfree':∀k ok,ops[k]? =some ok→k≠i→(listed.setIfInBounds j true).getD k true=false→
     (∀e∈ok.after,Region.binds md e=true→e.on≠i)→oi.apart ops ok=true:=fun k ok hk hki hun hno=>by
    refine hfree k ok hk hki ?_ hno
    by_cases hjk:j=k
    ·subst hjk;exact hjun
    ·rw[getD_set_ne true hjk] at hun;exact hun
   refine wpOp_mono (fun a' w' h3=>⟨h3.2.1,ih (listed.setIfInBounds j true) a' w' hfree' (ready_mono hr (Ne.symm hji)) h3.1 (h3.2.1 hjl) ?_⟩) h2;rw[Array.setIfInBounds_comm _ _ hji];exact h3.2.2
theorem E_take{i:Nat}{oi:Oper}{v:Value}{fuel:Nat}{listed:Array Bool}{a:Act}{w:World}(hi:ops[i]? =some oi)(hwt:waitsFor md ops last i=true)
  (hs:Region.noSelect ops=true) (hf:Region.free md ops listed i=true) (hr:(Region.ready md ops listed).contains i=true)
  (hQ:∀c a w,Q (.panic c) (a.put oi.dst v) w→Q (.panic c) a w) (hy:YieldsIf P ops S oi v a) (hS:S w)
  (h:AnyE P md ops Q S last fuel (listed.setIfInBounds i true) (a.put oi.dst v) w):AnyE P md ops Q S last (fuel+1) listed a w:=
 E_first hi (Region.noSelect_spec hs) hQ hwt fuel listed a w (Region.free_spec hi hf) (by simpa using hr) hy hS h
theorem E_step{i:Nat}{o:Oper}{fuel:Nat}{listed:Array Bool}{a:Act}{w:World}(hr:Region.ready md ops listed=[i])(ho:ops[i]? =some o)
  (h:∀K':Act→World→Prop,Shut (∀a w,(i≠last→S w)→((i≠last→S w)→AnyE P md ops Q S last fuel (listed.setIfInBounds i true) a w)→K' a w)→if Region.wanted o (yielded ops a.tmps)=true then Oper.wp P o a w K' Q else K' (a.put o.dst undef) w):
  AnyE P md ops Q S last (fuel+1) listed a w:=by
 refine⟨fun h0=>(by rw[h0] at hr;cases hr),fun j hj=> ?_⟩;rw[hr,List.mem_singleton] at hj;subst hj;exact wpOp_step ho (fun K' hK=>h K' (fun a w hS hW=>hK a w ⟨hS,hW hS⟩))
theorem E_done{listed:Array Bool}{a:Act}{w:World}(hr:Region.ready md ops listed=[])(h:Q .normal a w):∀fuel,AnyE P md ops Q S last fuel listed a w
 |0=>⟨hr,h⟩
 |_+1=>⟨fun _=>h,by rw[hr];simp⟩
theorem wp_region_E{id:Nat}{a:Act}{w:World}(S:World→Prop)(last:Nat)(hm:P.follows .mixedOrders=true)
  (h:AnyE P .any ops Q S last ops.size (Array.replicate ops.size false) a w.drew):(Code.region id ops true).wp P Q a w:=
 wp_region_any hm (any_of_E _ _ _ _ h)
end
end Go.Proofs.YtnpicaigdfnmfaaGreat
