/-
  Lemmas for the laws, together: MarkA.
-/
import Derived.Test.YtfkedlgpgmaemaaGreatDoorQaa
import Derived.Conc.LoneSelect
import Derived.Test.YtfkedlgpgmaemaaGreatDoorQam
import Derived.Test.YtfkedlgpgmaemaaGreatDoorQai
import Derived.Deep.RegionHeld3
import Derived.Deep.RegionHeldLaw
import Derived.Test.YtfkedlgpgmaemaaGreatDoorQak
import Derived.Test.YtfkedlgpgmaemaaGreatDoorQac
import Derived.Test.YtfkedlgpgmaemaaGreatDoorQax
import Derived.Test.YtfkedlgpgmaemaaGreatDoorQaz
set_option linter.unusedVariables false
set_option maxHeartbeats 16000000
namespace Go.Proofs.YtfkedlgpgmaemaaGreatDoor
open Tryz
section
open Go.RowKit Go.Conc

def wpN(P:Program)(c:Code)(Q:Exit->Act->World->Prop)(a:Act)(w:World):Prop:=
 ∀ (b:Frame) (k:List Item) (cs:List Frame),b.kind≠.early->
  ∃ e a' w',Q e a' w'/\Arrives P (lone (b.at a (.code c::k)) cs w) b k cs e a' w'

section
variable {P:Program} {Q:Exit->Act->World->Prop} {a:Act} {w:World}

theorem Cn{c:Code}(h:c.wp P Q a w):wpN P c Q a w:=λ b k cs _=>h b k cs

theorem Dr{x y:Code}(h:wpN P x (Exit.then (λ a w=>wpN P y Q a w) Q) a w):wpN P (Code.seq x y) Q a w:=by
 intro b k cs hb
 obtain⟨e,a₁,w₁,hq,harr⟩:=h b (.code y::k) cs hb
 cases e with
 |normal=>
  obtain⟨e₂,a₂,w₂,hq₂,harr₂⟩:=hq b k cs hb
  exact⟨e₂,a₂,w₂,hq₂,.of_steps (.head step_seq harr) harr₂⟩
 |exit id=>exact ⟨_,a₁,w₁,hq,.of_steps (.one step_seq) (.pass (x:=.code y) rfl (λ _ _=>.inl (by simp)) harr)⟩
 |goto l=>exact ⟨_,a₁,w₁,hq,.of_steps (.one step_seq) (.pass (x:=.code y) rfl (λ _ _=>.inl (by simp)) harr)⟩
 |ret=>exact ⟨_,a₁,w₁,hq,.of_steps (.one step_seq) (.pass (x:=.code y) rfl (λ _ _=>.inl (by simp)) harr)⟩
 |panic ch=>exact ⟨_,a₁,w₁,hq,.of_steps (.one step_seq) (.pass (x:=.code y) rfl (λ _ _=>.inl (by simp)) harr)⟩
 |outgrown=>exact ⟨_,a₁,w₁,hq,.of_steps (.one step_seq) (.pass (x:=.code y) rfl (λ _ _=>.inl (by simp)) harr)⟩

theorem wpN_region_comm{id:Nat}{ops:Array Oper}{rest:List Nat}{v:Value}{w':World}(hr:List.range ops.size=0::rest)
  (hs:∀ (b:Frame) (k:List Item) (cs:List Frame),b.kind≠.early->step P (solo (G (b.at a (.inRegion ops (0::rest)::k)) cs) w)=.next (solo (G ((b.at a (.inRegion ops (0::rest)::k)).finish v) cs) w'))
  (h:wpOps P ops Q rest (a.put ((ops[0]?).bind (·.dst)) v) w'):wpN P (Code.region id ops false) Q a w:=by
 intro b k cs hb
 obtain⟨e,a',w'',q,r⟩:=wp_ops rest _ w' h b k cs
 refine⟨e,a',w'',q,.of_steps (.head step_region ?_) r⟩
 rw[hr]
 refine .one ?_
 have:=hs b k cs hb
 rw[Frame.finish_at] at this
 exact this

theorem EM{id:Nat}{o:Oper}{l:List Oper}{v:Value}{w':World}{cases:Array CommCase}{blocking:Bool}{shape:CommShape}(hw:Region.wanted o (yielded (o::l).toArray a.tmps)=true)(hr:(execOp a.eval o).run P w=.ok (.comm cases blocking shape) w)
  (hs:∀ (fr:Frame) (cs:List Frame) (es:Array Event),stepG P true (G fr cs) w=.comm (G fr cs) cases blocking shape w es->step P (solo (G fr cs) w)=.next (solo (G (fr.finish v) cs) w'))
  (h:wpList P (o::l).toArray Q l (a.put o.dst v) w'):wpN P (Code.region id (o::l).toArray false) Q a w:=by
 refine wpN_region_comm (rest:=List.range' 1 l.length) (v:=v) (w':=w') ?_ (λ b k cs hb=>hs _ cs _ (stepG_comm (by simp) hw hb hr)) ?_
 .rw [List.range_eq_range']
  simp[List.range'_succ]
 .have e:=wpOps_eq_wpList (P:=P) (ops:=(o::l).toArray) (Q:=Q) l 1 (λ j=>by simp[Nat.add_comm 1 j])
  rw[e]
  simpa using h

theorem wpN_send_room{id:Nat}{o:Oper}{l:List Oper}{c cap s r:Nat}{buf:Array Value}{v z:Value}{tm:Bool}(hw:Region.wanted o (yielded (o::l).toArray a.tmps)=true)(hr:(execOp a.eval o).run P w=.ok (.comm #[scase c v z] false .select) w)
  (hc:w.heap[c]?=some (.chan cap buf false s r tm)) (hroom:buf.size<cap) (h:wpList P (o::l).toArray Q l (a.put o.dst (.tuple #[goInt 0,.bool false])) (w.setChan c cap (buf.push v) false (s+1) r tm)):wpN P (Code.region id (o::l).toArray false) Q a w:=
 EM hw hr (λ _ _ _ hg=>step_lone_select_send_room hg hc hroom) h

theorem wpN_send_full{id:Nat}{o:Oper}{l:List Oper}{c cap s r:Nat}{buf:Array Value}{v z:Value}{tm:Bool}(hw:Region.wanted o (yielded (o::l).toArray a.tmps)=true)(hr:(execOp a.eval o).run P w=.ok (.comm #[scase c v z] false .select) w)
  (hc:w.heap[c]?=some (.chan cap buf false s r tm)) (hfull:cap<=buf.size) (h:wpList P (o::l).toArray Q l (a.put o.dst (.tuple #[goInt (-1),.bool false])) w):wpN P (Code.region id (o::l).toArray false) Q a w:=
 EM hw hr (λ _ _ _ hg=>step_lone_select_send_full hg hc hfull) h

theorem wpN_recv_buf{id:Nat}{o:Oper}{l:List Oper}{c cap s r:Nat}{buf:Array Value}{z:Value}{tm closed:Bool}(hw:Region.wanted o (yielded (o::l).toArray a.tmps)=true)(hr:(execOp a.eval o).run P w=.ok (.comm #[rcase c z] false .select) w)
  (hc:w.heap[c]?=some (.chan cap buf closed s r tm)) (hsome:0<buf.size) (h:wpList P (o::l).toArray Q l (a.put o.dst (.tuple #[goInt 0,.bool true,buf.getD 0 undef])) (w.setChan c cap (buf.extract 1 buf.size) closed s (r+1) tm)):wpN P (Code.region id (o::l).toArray false) Q a w:=
 EM hw hr (λ _ _ _ hg=>step_lone_select_recv_buf hg hc hsome) h

theorem wpN_recv_empty{id:Nat}{o:Oper}{l:List Oper}{c cap s r:Nat}{z:Value}{tm:Bool}(hw:Region.wanted o (yielded (o::l).toArray a.tmps)=true)(hr:(execOp a.eval o).run P w=.ok (.comm #[rcase c z] false .select) w)
  (hc:w.heap[c]?=some (.chan cap #[] false s r tm)) (h:wpList P (o::l).toArray Q l (a.put o.dst (.tuple #[goInt (-1),.bool false,z])) w):wpN P (Code.region id (o::l).toArray false) Q a w:=
 EM hw hr (λ _ _ _ hg=>step_lone_select_default hg hc) h

theorem EF{f:FuncId}{fn:Func}{c:Code}{args:Array Value}{R:Ending->World->Prop}
  (hf:P.funcs[f]?=some fn) (hb:fn.body=some c)
  (h:wpN P c (bodyPost P fn R) {tmps:=args++Array.replicate (fn.ntmps-args.size) undef,defers:=[]} w):Calls P f args w R:=by
 intro cs
 let b:Frame:={(default:Frame) with fn:=f,kind:=.normal}
 have henter:Frame.enter P f args .normal=b.at {tmps:=args++Array.replicate (fn.ntmps-args.size) undef,defers:=[]} [.code c]:=by
  simp[Frame.enter,Frame.at,hf,hb,b]
 obtain⟨e,a',w',hq,harr⟩:=h b [] cs (by simp[b])
 rw[<- henter] at harr
 cases e with
 |normal=>
  obtain⟨hd,v,hr,hR⟩:=hq
  exact⟨.returned v,w',_,hR,Steps.trans harr (.one step_end),rfl,rfl,hd,rfl,fn,hf,hr⟩
 |ret=>
  obtain⟨hd,v,hr,hR⟩:=hq
  obtain⟨todo,hs⟩:=harr
  exact⟨.returned v,w',_,hR,hs,rfl,rfl,hd,rfl,fn,hf,hr⟩
 |panic chain=>
  obtain⟨hd,hR⟩:=hq
  obtain⟨todo,hs⟩:=harr
  exact⟨.panicked chain,w',_,hR,hs,rfl,rfl,hd,fn,hf⟩
 |exit id=>exact hq.elim
 |goto l=>exact hq.elim
 |outgrown=>exact ⟨.outgrown,w',b,hq,harr.resolve_left (by simp[b]),rfl,trivial⟩

end

structure StackAt(w:World)(mb c cap base:Nat)(v0 v1 v2 v6 v7 lv:Value)(stk:List Nat)(deep:Nat):Prop where
 blk:w.heap[mb]?=some (.cells #[v0,v1,v2,.chan (some c),lv,deep,v6,v7] 213 (0,0))
 ch:∃ buf s r,w.heap[c]?=some (.chan cap buf false s r false)/\buf.size=stk.length
 row:w.ownsRow base 3 1 lv stk.length (Az stk)
 le:stk.length<=cap
 cap_le:cap<=65536
 deep_le:deep<=cap
 mb_lt:mb<base
 c_lt:c<base
 ne:¬ mb=c

theorem Cs{w:World}{b:Nat}{a0 a1 a2 a3 a4 a5 a6 a7:Value}{T:TypeId}(hb:w.heap[b]?=some (.cells #[a0,a1,a2,a3,a4,a5,a6,a7] T (0,0))):
  w.cell? b=some a0/\w.cell? ⟨b,1,none⟩=some a1/\w.cell? ⟨b,2,none⟩=some a2/\w.cell? ⟨b,3,none⟩=some a3/\w.cell? ⟨b,4,none⟩=some a4/\w.cell? ⟨b,5,none⟩=some a5/\w.cell? ⟨b,6,none⟩=some a6/\w.cell? ⟨b,7,none⟩=some a7:=by
 refine⟨?_,?_,?_,?_,?_,?_,?_,?_⟩ <;> simp only[World.cell?,hb] <;> rfl

theorem Kp.setChan{S:Nat->Prop}{a w:World}(h:Kp S a w){c:Nat}(hc:c<a.heap.size->S c)(cap:Nat)(buf:Array Value)(cl:Bool)(s r:Nat)(tm:Bool):Kp S a (w.setChan c cap buf cl s r tm):=
 ⟨h.os,h.tape,h.output,by simp[World.setChan];exact h.size,λ k hk hn=>by
  simp only[World.setChan]
  rw[Array.getElem?_setIfInBounds_ne (λ e=>hn (by subst e;exact hc hk))]
  exact h.block k hk hn⟩

set_option maxRecDepth 20000 in
theorem Push_full(mb c cap base x:Nat)(v0 v1 v2 v6 v7 lv:Value)(stk:List Nat)(deep:Nat)(w:World)(h:StackAt w mb c cap base v0 v1 v2 v6 v7 lv stk deep)(hf:stk.length=cap):
  Calls prog 169 #[.pointer (some ⟨mb,3,none⟩),x] w λ e w'=>e=.returned (.bool false)/\w'=w:=by
 obtain⟨b0,b1,b2,b3,b4,b5,b6,b7⟩:=Cs h.blk
 obtain⟨buf,s,r,hc,hb⟩:=h.ch
 have HC:=sE hc
 have HB:Sl (cap<=buf.size):=⟨by omega⟩
 clear h hc hb hf
 refine EF func169 rfl ?_
 simp only[ntmps169,List.size_toArray,List.length_cons,List.length_nil,Nat.reduceAdd,Nat.reduceSub,Array.replicate_succ,Array.replicate_zero,List.push_toArray,List.append_toArray,List.nil_append,List.cons_append]
 refine Dr (Cn ?_)
 go_wp2_with fail
 refine Dr ?_
 refine Cn ?_
 go_wp2_with fail
 refine Dr ?_
 refine wpN_send_full (c:=c) (cap:=cap) (buf:=buf) (s:=s) (r:=r) (tm:=false) (v:=.agg #[]) (z:=.agg #[]) ?_ ?_ HC.o HB.o ?_
 .kernel_rfl
 .simp [go_sem,execOp,scase,Act.eval]
  done
 .go_wp2_with fail
  refine Cn ?_
  go_wp2
  go_ret
  exact⟨rfl,rfl⟩

def PushPost(mb c cap base x:Nat)(v0 v1 v2 v6 v7 lv:Value)(stk:List Nat)(deep:Nat)(w:World)(e:Ending)(w':World):Prop:=
 e=.returned (.bool true)/\∃ lv',StackAt w' mb c cap base v0 v1 v2 v6 v7 lv' (stk++[x]) (max deep (stk.length+1))/\(∀ b,lv'.ownBlock=some b->lv.ownBlock=some b\/w.heap.size<=b)/\Kp (λ k=>k=mb\/k=c\/lv.ownBlock=some k) w w'

theorem set8_4{w:World}{b:Nat}{a0 a1 a2 a3 a4 a5 a6 a7:Value}{T:TypeId}(hb:w.heap[b]?=some (.cells #[a0,a1,a2,a3,a4,a5,a6,a7] T (0,0)))(v:Value):(w.setCell ⟨b,4,none⟩ v).heap[b]?=some (.cells #[a0,a1,a2,a3,v,a5,a6,a7] T (0,0)):=by
 rw[bZ hb]
 rfl

theorem set8_5{w:World}{b:Nat}{a0 a1 a2 a3 a4 a5 a6 a7:Value}{T:TypeId}(hb:w.heap[b]?=some (.cells #[a0,a1,a2,a3,a4,a5,a6,a7] T (0,0)))(v:Value):(w.setCell ⟨b,5,none⟩ v).heap[b]?=some (.cells #[a0,a1,a2,a3,a4,v,a6,a7] T (0,0)):=by
 rw[bZ hb]
 rfl

theorem chan_setChan{w:World}{c cap:Nat}{buf:Array Value}{cl:Bool}{s r:Nat}{tm:Bool}(h:c<w.heap.size):(w.setChan c cap buf cl s r tm).heap[c]?=some (.chan cap buf cl s r tm):=by
 simp[World.setChan,h]

set_option maxRecDepth 20000 in
theorem Push_room(mb c cap base x:Nat)(v0 v1 v2 v6 v7 lv:Value)(stk:List Nat)(deep:Nat)(w:World)(h:StackAt w mb c cap base v0 v1 v2 v6 v7 lv stk deep)(hf:stk.length<cap)(hbase:base<=w.heap.size):
  Calls prog 169 #[.pointer (some ⟨mb,3,none⟩),x] w (PushPost mb c cap base x v0 v1 v2 v6 v7 lv stk deep w):=by
 obtain⟨b0,b1,b2,b3,b4,b5,b6,b7⟩:=Cs h.blk
 obtain⟨buf,s,r,hc,hb⟩:=h.ch
 have hne:=h.ne
 have hcl:=lZ hc
 have hcb:=h.c_lt
 have hmb:=h.mb_lt
 have hcap:=h.cap_le
 have hdp:=h.deep_le
 have HC:=sE hc
 have HB:Sl (buf.size<cap):=⟨by omega⟩
 have HBs:=sE hb
 obtain⟨w1,hw1⟩:∃ w1,w1=w.setChan c cap (buf.push (.agg #[])) false (s+1) r false:=⟨_,rfl⟩
 have k1:Kp (λ k=>k=c) w w1:=by rw[hw1];exact (Kr (λ k=>k=c) w).setChan (λ _=>rfl) _ _ _ _ _ _
 have c1:w1.heap[c]?=some (.chan cap (buf.push (.agg #[])) false (s+1) r false):=by rw[hw1];exact chan_setChan hcl
 have blk1:=k1.at_ h.blk hne
 have row1:=Af h.row k1 (λ b hb e=>by have:=(Ad h.row hb).1;omega)
 have z1:=k1.size
 have HK1:=sE k1
 have HC1:=sE c1
 have HBl1:=sE blk1
 have HR1:=sE row1
 have HLe:Sl (stk.length+1<=cap):=⟨hf⟩
 have hlen:stk.length<=65536:=by omega
 clear h hc hb k1 c1 row1
 refine EF func169 rfl ?_
 simp only[ntmps169,List.size_toArray,List.length_cons,List.length_nil,Nat.reduceAdd,Nat.reduceSub,Array.replicate_succ,Array.replicate_zero,List.push_toArray,List.append_toArray,List.nil_append,List.cons_append]
 refine Dr (Cn ?_)
 go_wp2_with fail
 refine Dr ?_
 refine Cn ?_
 go_wp2_with fail
 refine Dr ?_
 refine wpN_send_room (c:=c) (cap:=cap) (buf:=buf) (s:=s) (r:=r) (tm:=false) (v:=.agg #[]) (z:=.agg #[]) ?_ ?_ HC.o HB.o ?_
 .kernel_rfl
 .simp [go_sem,execOp,scase,Act.eval]
  done
 .rw [<- hw1]
  clear hw1 b0 b1 b2 b3 b4 b5 b6 b7
  obtain⟨b0,b1,b2,b3,b4,b5,b6,b7⟩:=Cs blk1
  clear blk1
  go_wp2_with fail
  refine Cn ?_
  go_wp2_with (at_builtin;obtain ⟨i0,hi,hz0,hz1,hz2⟩:=info_parts Be;go_loud (refine wpList_append_lies _ rfl (.tmp 17) (.tmp 19) 24 rfl base 3 i0 _ 1 8 Ar hi hz0 hz1 hz2 rfl (by omega) lv stk.length (Az stk) rfl (HR1.o.alloc _) ⟨w1.heap.size,0,none⟩ 1 1 [x] rfl rfl (World.news_of_block (wN w1 _)) (by intro u hu;simp at hu;subst hu;rfl) (by omega) (by unfold maxLen;omega) (by omega) (by simp;omega) (w1.heap.size+1) (by simp) ?_);intro gn capn w3 hown3 hgrow hat hlt;clear hi hz0 hz1 hz2;have hnb:¬ lv.ownBlock=some mb:=λ h=>(by have:=(Ad HR1.o h).1;omega);have k3:Kp (λ k=>lv.ownBlock=some k) w1 w3:=((Kr Aa w1).alloc _ |>.Aw _).grown hgrow (λ k e h=>by first|exact h|(injection e with e;subst e;assumption)|exact e);have b3':=k3.at_ HBl1.o hnb;have f3:=Ab b3' 4;obtain ⟨e0,e1,e2,e3,e4,e5,e6,e7⟩:=Cs b3';have HR3:=sE hown3;have HB3:=sE b3';have HK3:=sE k3;have HAt:=sE hat;clear hown3 hgrow hat b3' k3 b0 b1 b2 b3 b4 b5 b6 b7)
  obtain⟨w4,hw4⟩:∃ w4,w4=w3.setCell ⟨mb,4,none⟩ (.slice (some ⟨gn,0,none⟩) (stk.length+1) capn):=⟨_,rfl⟩
  have k4:Kp (λ k=>k=mb) w3 w4:=by rw[hw4];exact (Kr (λ k=>k=mb) w3).setCell (λ _=>rfl) _
  have b4:w4.heap[mb]?=some (.cells #[v0,v1,v2,.chan (some c),.slice (some ⟨gn,0,none⟩) (stk.length+1) capn,deep,v6,v7] 213 (0,0)):=by rw[hw4];exact set8_4 HB3.o _
  rw[<- hw4]
  clear hw4 e0 e1 e2 e3 e4 e5 e6 e7 f3
  obtain⟨e0,e1,e2,e3,e4,e5,e6,e7⟩:=Cs b4
  have f4:=Ab b4 5
  have HB4:=sE b4
  have HK4:=sE k4
  clear k4 b4
  obtain⟨d,hd⟩:∃ d,max deep (stk.length+1)=d:=⟨_,rfl⟩
  have HD:Sl (d<=cap):=⟨by have:=HLe.o;omega⟩
  have HDq:=sE hd
  have hmx:max (deep:Int) ((stk.length:Int)+1)=(d:Nat):=by omega
  have HMx:=sE hmx
  clear hd hmx
  refine Br 13 (by kernel_rfl) (by kernel_rfl) ?_
  simp only[List.take_succ_cons,List.take_zero,List.drop_succ_cons,List.drop_zero]
  repeat (go_big_quiet_step (fail))
  refine wpQuiet_nil ?_
  intro _ hw'
  obtain⟨nq,hw''⟩:=hw'
  subst hw''
  go_wp2_with fail
  .have hdv:((stk.length:Int)+1)=(d:Nat):=by have:=HDq.o;omega
   rw[hdv]
   go_ret
   have k5:Kp (λ k=>k=mb) w4 ((w4.drewN nq).setCell ⟨mb,5,none⟩ (.int .i64 (d:Nat))):=((Kr (λ k=>k=mb) w4).drewN _).setCell (λ _=>rfl) _
   have K:Kp (λ k=>k=mb) w3 _:=HK4.o.trans k5 (λ _ _ h=>h)
   have hgb:∀ b,(Value.slice (some ⟨gn,0,none⟩) (stk.length+1) capn).ownBlock=some b->base<=b:=λ b h=>(Ad HR3.o h).1
   refine⟨rfl,_,⟨by have:=set8_5 (w:=w4.drewN nq) HB4.o (.int .i64 (d:Nat));rw [HDq.o];exact this,⟨_,_,_,K.at_ (HK3.o.at_ HC1.o (λ h=>by have:=(Ad HR1.o h).1;omega)) (λ h=>hne h.symm),by simp[HBs.o]⟩,?_,by simpa using HLe.o,hcap,by rw[HDq.o];exact HD.o,hmb,hcb,hne⟩,λ b hb=>?_,?_⟩
   .rw [Az,List.map_append,List.length_append]
    exact Af HR3.o K (λ b hb e=>by have:=hgb b hb;omega)
   .have hg:gn=b:=by simpa [Value.ownBlock] using hb
    subst hg
    rcases HAt.o with h|h
    .exact .inl h
    .right
     rw[h]
     have:=HK1.o.size
     simp
     omega
   .exact (((HK1.o.mono λ i _ h=>.inr (.inl h)).trans HK3.o (λ i _ h=>.inr (.inr h))).trans K (λ i _ h=>.inl h))
  .have hdv:(deep:Int)=(d:Nat):=by have:=HDq.o;omega
   rw[hdv]
   go_ret
   have k5:Kp (λ k=>k=mb) w4 ((w4.drewN nq).setCell ⟨mb,5,none⟩ (.int .i64 (d:Nat))):=((Kr (λ k=>k=mb) w4).drewN _).setCell (λ _=>rfl) _
   have K:Kp (λ k=>k=mb) w3 _:=HK4.o.trans k5 (λ _ _ h=>h)
   have hgb:∀ b,(Value.slice (some ⟨gn,0,none⟩) (stk.length+1) capn).ownBlock=some b->base<=b:=λ b h=>(Ad HR3.o h).1
   refine⟨rfl,_,⟨by have:=set8_5 (w:=w4.drewN nq) HB4.o (.int .i64 (d:Nat));rw [HDq.o];exact this,⟨_,_,_,K.at_ (HK3.o.at_ HC1.o (λ h=>by have:=(Ad HR1.o h).1;omega)) (λ h=>hne h.symm),by simp[HBs.o]⟩,?_,by simpa using HLe.o,hcap,by rw[HDq.o];exact HD.o,hmb,hcb,hne⟩,λ b hb=>?_,?_⟩
   .rw [Az,List.map_append,List.length_append]
    exact Af HR3.o K (λ b hb e=>by have:=hgb b hb;omega)
   .have hg:gn=b:=by simpa [Value.ownBlock] using hb
    subst hg
    rcases HAt.o with h|h
    .exact .inl h
    .right
     rw[h]
     have:=HK1.o.size
     simp
     omega
   .exact (((HK1.o.mono λ i _ h=>.inr (.inl h)).trans HK3.o (λ i _ h=>.inr (.inr h))).trans K (λ i _ h=>.inl h))

set_option maxRecDepth 20000 in
theorem Pop_none(mb c cap base:Nat)(v0 v1 v2 v6 v7 lv:Value)(deep:Nat)(w:World)(h:StackAt w mb c cap base v0 v1 v2 v6 v7 lv [] deep):
  Calls prog 170 #[.pointer (some ⟨mb,3,none⟩)] w λ e w'=>e=.returned (.tuple #[(0:Int),.bool false])/\w'=w:=by
 obtain⟨b0,b1,b2,b3,b4,b5,b6,b7⟩:=Cs h.blk
 obtain⟨buf,s,r,hc,hb⟩:=h.ch
 obtain rfl:buf=#[]:=by simpa using hb
 have HC:=sE hc
 clear h hc hb
 refine EF func170 rfl ?_
 simp only[ntmps170,List.size_toArray,List.length_cons,List.length_nil,Nat.reduceAdd,Nat.reduceSub,Array.replicate_succ,Array.replicate_zero,List.push_toArray,List.append_toArray,List.nil_append,List.cons_append]
 refine Dr (Cn ?_)
 go_wp2_with fail
 refine Dr ?_
 refine Cn ?_
 go_wp2_with fail
 refine Dr ?_
 refine wpN_recv_empty (c:=c) (cap:=cap) (s:=s) (r:=r) (tm:=false) (z:=.agg #[]) ?_ ?_ HC.o ?_
 .kernel_rfl
 .simp [go_sem,execOp,rcase,Act.eval]
  done
 .go_wp2_with fail
  refine Cn ?_
  go_wp2
  go_ret2
  exact⟨rfl,rfl⟩

def PopPost(mb c cap base x:Nat)(v0 v1 v2 v6 v7 lv:Value)(stk:List Nat)(deep:Nat)(w:World)(e:Ending)(w':World):Prop:=
 e=.returned (.tuple #[x,.bool true])/\∃ lv',StackAt w' mb c cap base v0 v1 v2 v6 v7 lv' stk deep/\(∀ b,lv'.ownBlock=some b->lv.ownBlock=some b)/\Kp (λ k=>k=mb\/k=c) w w'

theorem row_last{w:World}{base:Nat}{v:Value}{xs:List Nat}{x n:Nat}(h:w.ownsRow base 3 1 v (xs++[x]).length (Az (xs++[x])))(hn:xs.length=n):
  ∃ g cap,v=.slice (some ⟨g,0,none⟩) (n+1) cap/\base<=g/\n+1<=cap/\cap<=maxLen/\w.cell? ⟨g,n,none⟩=some (.int .i64 x)/\w.ownsRow base 3 1 (.slice (some ⟨g,0,none⟩) n cap) xs.length (Az xs):=by
 subst hn
 rcases h.2 with ⟨-,h0⟩|⟨g,cap,cur,rfl,g2,g3,g4,g5,g6,g7⟩
 .simp at h0
 .rw [Nat.mul_one] at g7
  have hl:(xs++[x]).length=xs.length+1:=by simp
  rw[hl] at g4 g7 ⊢
  refine⟨g,cap,rfl,g2,g4,g5,?_,⟨by simp[Az],.inr ⟨g,cap,cur,rfl,g2,g3,by omega,g5,g6,?_⟩⟩⟩
  .have:cur.toList[xs.length]?=some (.int .i64 x):=by
    rw[<- List.getElem?_take_of_lt (j:=xs.length+1) (by omega),g7]
    simp[Az]
   simp only[World.cell?,g3]
   rw[<- this]
   simp
  .have h8:=congrArg (List.take xs.length) g7
   rw[List.take_take,Nat.min_eq_left (by omega)] at h8
   rw[Nat.mul_one,h8]
   simp[Az]

set_option maxRecDepth 20000 in
theorem Pop_some(mb c cap base x:Nat)(v0 v1 v2 v6 v7 lv:Value)(stk:List Nat)(deep:Nat)(w:World)(h:StackAt w mb c cap base v0 v1 v2 v6 v7 lv (stk++[x]) deep)(hbase:base<=w.heap.size):
  Calls prog 170 #[.pointer (some ⟨mb,3,none⟩)] w (PopPost mb c cap base x v0 v1 v2 v6 v7 lv stk deep w):=by
 obtain⟨n,hn⟩:∃ n,stk.length=n:=⟨_,rfl⟩
 obtain⟨b0,b1,b2,b3,b4,b5,b6,b7⟩:=Cs h.blk
 obtain⟨buf,s,r,hc,hb⟩:=h.ch
 have hne:=h.ne
 have hcl:=lZ hc
 have hcb:=h.c_lt
 have hmb:=h.mb_lt
 have hcap:=h.cap_le
 have hdp:=h.deep_le
 have hle:=h.le
 have hlen:(stk++[x]).length=n+1:=by simp[hn]
 rw[hlen] at hle hb
 have HC:=sE hc
 have HB:Sl (0<buf.size):=⟨by omega⟩
 obtain⟨w1,hw1⟩:∃ w1,w1=w.setChan c cap (buf.extract 1 buf.size) false s (r+1) false:=⟨_,rfl⟩
 have k1:Kp (λ k=>k=c) w w1:=by rw[hw1];exact (Kr (λ k=>k=c) w).setChan (λ _=>rfl) _ _ _ _ _ _
 have c1:w1.heap[c]?=some (.chan cap (buf.extract 1 buf.size) false s (r+1) false):=by rw[hw1];exact chan_setChan hcl
 have blk1:=k1.at_ h.blk hne
 have row1:=Af h.row k1 (λ b hb e=>by have:=(Ad h.row hb).1;omega)
 obtain⟨g,capl,rfl,hg,hgc,hgm,cx,row2⟩:=row_last row1 hn
 have HSz:Sl ((buf.extract 1 buf.size).size=stk.length):=⟨by simp;omega⟩
 have HK1:=sE k1
 have HC1:=sE c1
 have HBl1:=sE blk1
 have HR2:=sE row2
 have hn2:n<=65536:=by omega
 have hsub:IntKind.i64.wrap ((n:Int)+1-1)=(n:Nat):=by rw[IntKind.wrap_i64];omega
 have hi1:(n:Int)<(n:Int)+1:=by omega
 have hgc':(n:Int)<=(capl:Int):=by omega
 clear h hc hb k1 c1 row1 row2 hlen hgm
 refine EF func170 rfl ?_
 simp only[ntmps170,List.size_toArray,List.length_cons,List.length_nil,Nat.reduceAdd,Nat.reduceSub,Array.replicate_succ,Array.replicate_zero,List.push_toArray,List.append_toArray,List.nil_append,List.cons_append]
 refine Dr (Cn ?_)
 go_wp2_with fail
 refine Dr ?_
 refine Cn ?_
 go_wp2_with fail
 refine Dr ?_
 refine wpN_recv_buf (c:=c) (cap:=cap) (buf:=buf) (closed:=false) (s:=s) (r:=r) (tm:=false) (z:=.agg #[]) ?_ ?_ HC.o HB.o ?_
 .kernel_rfl
 .simp [go_sem,execOp,rcase,Act.eval]
  done
 .rw [<- hw1]
  clear hw1 b0 b1 b2 b3 b4 b5 b6 b7
  obtain⟨b0,b1,b2,b3,b4,b5,b6,b7⟩:=Cs blk1
  have hf:=Ab blk1 4
  clear blk1
  go_wp2_with fail
  refine Cn ?_
  go_wp2_with fail
  go_quiet (fail)
  go_wp2_with fail
  refine Br 14 (by kernel_rfl) (by kernel_rfl) ?_
  simp only[List.take_succ_cons,List.take_zero,List.drop_succ_cons,List.drop_zero]
  repeat (go_big_quiet_step (fail))
  refine wpQuiet_nil ?_
  intro _ hw'
  obtain⟨nq,hw''⟩:=hw'
  subst hw''
  go_wp2_with fail
  rename_i nq0
  have k5:Kp (λ k=>k=mb) w1 ((w1.drewN (nq0+nq)).setCell ⟨mb,4,none⟩ (.slice (some ⟨g,0,none⟩) n capl)):=((Kr (λ k=>k=mb) w1).drewN _).setCell (λ _=>rfl) _
  have b9:=set8_4 (w:=w1.drewN (nq0+nq)) HBl1.o (.slice (some ⟨g,0,none⟩) n capl)
  have row9:=Af HR2.o k5 (λ b hb e=>by have:=(Ad HR2.o hb).1;omega)
  have ch9:=k5.at_ HC1.o (λ h=>hne h.symm)
  rw[hn] at row9
  go_ret2
  exact⟨rfl,_,⟨b9,⟨_,_,_,ch9,HSz.o⟩,by rw[hn];exact row9,by omega,hcap,hdp,hmb,hcb,hne⟩,λ b hb=>hb,(HK1.o.mono λ i _ h=>.inr h).trans k5 (λ i _ h=>.inl h)⟩

structure MS where
 f:Nat->Bool
 full:Bool
 n:Nat
 stk:List Nat
 deep:Nat

def markR(cap:Nat)(S:MS)(g:Nat):MS:=
 if S.f g=true then S else if S.stk.length<cap then ⟨Ck S.f g 1 true,S.full,S.n+1,S.stk++[g],max S.deep (S.stk.length+1)⟩ else ⟨Ck S.f g 1 true,true,S.n+1,S.stk,S.deep⟩

theorem countP_point(f:Nat->Bool)(g:Nat)(hf:f g=false):∀ n,(List.range n).countP (Ck f g 1 true)=(List.range n).countP f+(if g<n then 1 else 0)
 |0=>rfl
 |n+1=>by
  rw[List.range_succ,List.countP_append,List.countP_append,countP_point f g hf n]
  by_cases h:n=g
  .subst h
   simp[Ck,hf]
  .have h1:Ck f g 1 true n=f n:=by unfold Ck;rw [if_neg (by omega)]
   simp only[List.countP_cons,List.countP_nil,h1]
   by_cases h2:g<n
   .rw [if_pos h2,if_pos (show g<n+1 by omega)]
    omega
   .rw [if_neg h2,if_neg (show ¬ g<n+1 by omega)]
    omega

structure MarkAt(w:World)(mb c cap base:Nat)(v0:Value)(sp sq mp mq H:Nat)(fs:Nat->Bool)(lv:Value)(S:MS):Prop where
 st:StackAt w mb c cap base v0 (.pointer (some sp)) (.pointer (some mp)) (.bool S.full) (.int .i64 S.n) lv S.stk S.deep
 sb:AL w sp sq fs H
 mbits:AL w mp mq S.f H
 cnt:S.n=(List.range H).countP S.f
 ap:sp<base/\sq<base/\mp<base/\mq<base
 ne:¬ mb=sp/\¬ mb=sq/\¬ mb=mp/\¬ mb=mq/\¬ c=sp/\¬ c=sq/\¬ c=mp/\¬ c=mq/\¬ mq=sp/\¬ mq=sq
 bz:base<=w.heap.size

def MarkS(mb c mq:Nat)(lv:Value):Nat->Prop:=λ k=>k=mb\/k=c\/k=mq\/lv.ownBlock=some k

def MarkPost(mb c cap base:Nat)(v0:Value)(sp sq mp mq H:Nat)(fs:Nat->Bool)(lv:Value)(S:MS)(w:World)(e:Ending)(w':World):Prop:=
 e=.returned (.tuple #[])/\∃ lv',MarkAt w' mb c cap base v0 sp sq mp mq H fs lv' S/\(∀ b,lv'.ownBlock=some b->lv.ownBlock=some b\/w.heap.size<=b)/\Kp (MarkS mb c mq lv) w w'

theorem set8_6{w:World}{b:Nat}{a0 a1 a2 a3 a4 a5 a6 a7:Value}{T:TypeId}(hb:w.heap[b]?=some (.cells #[a0,a1,a2,a3,a4,a5,a6,a7] T (0,0)))(v:Value):(w.setCell ⟨b,6,none⟩ v).heap[b]?=some (.cells #[a0,a1,a2,a3,a4,a5,v,a7] T (0,0)):=by
 rw[bZ hb]
 rfl

theorem set8_7{w:World}{b:Nat}{a0 a1 a2 a3 a4 a5 a6 a7:Value}{T:TypeId}(hb:w.heap[b]?=some (.cells #[a0,a1,a2,a3,a4,a5,a6,a7] T (0,0)))(v:Value):(w.setCell ⟨b,7,none⟩ v).heap[b]?=some (.cells #[a0,a1,a2,a3,a4,a5,a6,v] T (0,0)):=by
 rw[bZ hb]
 rfl

theorem StackAt.turn{w w':World}{mb c cap base deep:Nat}{v0 v1 v2 v6 v7 u6 u7 lv:Value}{stk:List Nat}(h:StackAt w mb c cap base v0 v1 v2 v6 v7 lv stk deep)(k:Kp (λ k=>k=mb) w w')
  (hb:w'.heap[mb]?=some (.cells #[v0,v1,v2,.chan (some c),lv,deep,u6,u7] 213 (0,0))):StackAt w' mb c cap base v0 v1 v2 u6 u7 lv stk deep:=
 have ⟨buf,s,r,hc,hs⟩:=h.ch
 ⟨hb,⟨buf,s,r,k.at_ hc (λ e=>h.ne e.symm),hs⟩,Af h.row k (λ b hb e=>by have:=(Ad h.row hb).1;have:=h.mb_lt;omega),h.le,h.cap_le,h.deep_le,h.mb_lt,h.c_lt,h.ne⟩

theorem StackAt.keep{S:Nat->Prop}{w w':World}{mb c cap base deep:Nat}{v0 v1 v2 v6 v7 lv:Value}{stk:List Nat}(h:StackAt w mb c cap base v0 v1 v2 v6 v7 lv stk deep)(k:Kp S w w')(h1:¬ S mb)(h2:¬ S c)(h3:∀ b,base<=b->b<w.heap.size->¬ S b):StackAt w' mb c cap base v0 v1 v2 v6 v7 lv stk deep:=
 have ⟨buf,s,r,hc,hs⟩:=h.ch
 ⟨k.at_ h.blk h1,⟨buf,s,r,k.at_ hc h2,hs⟩,Af h.row k (λ b hb=>h3 b (Ad h.row hb).1 (Ad h.row hb).2),h.le,h.cap_le,h.deep_le,h.mb_lt,h.c_lt,h.ne⟩

theorem MarkAt.keep{S:Nat->Prop}{w w':World}{mb c cap base:Nat}{v0:Value}{sp sq mp mq H:Nat}{fs:Nat->Bool}{lv:Value}{M:MS}(h:MarkAt w mb c cap base v0 sp sq mp mq H fs lv M)(k:Kp S w w')(hS:∀ b,S b->w.heap.size<=b):MarkAt w' mb c cap base v0 sp sq mp mq H fs lv M:=
 have hst:=h.st
 have z:=h.bz
 have a:=h.ap
 have l1:=hst.mb_lt
 have l2:=hst.c_lt
 ⟨hst.keep k (λ e=>by have:=hS _ e;omega) (λ e=>by have:=hS _ e;omega) (λ b _ hb e=>by have:=hS _ e;omega),
  h.sb.keep k (λ e=>by have:=hS _ e;omega) (λ e=>by have:=hS _ e;omega),h.mbits.keep k (λ e=>by have:=hS _ e;omega) (λ e=>by have:=hS _ e;omega),h.cnt,h.ap,h.ne,Nat.le_trans z k.size⟩

set_option maxRecDepth 20000 in
theorem Mark_at(mb c cap base:Nat)(v0:Value)(sp sq mp mq H:Nat)(fs:Nat->Bool)(lv:Value)(S:MS)(g:Nat)(hg:g<H)(w:World)(h:MarkAt w mb c cap base v0 sp sq mp mq H fs lv S):
  Calls prog 123 #[.pointer (some mb),g] w (MarkPost mb c cap base v0 sp sq mp mq H fs lv (markR cap S g) w):=by
 have hst:=h.st
 obtain⟨b0,b1,b2,b3,b4,b5,b6,b7⟩:=Cs hst.blk
 have HH:=sE h
 have HS:=sE hst
 clear h hst
 go_enter func123,ntmps123
 go_wp2_with fail
 refine(Has_in g H mp mq S.f _ HH.o.mbits hg).mono ?_
 rintro e w1 ⟨rfl,k1⟩
 have HK1:=sE k1
 rcases hfg:S.f g with _|_
 .have HF:=sE hfg
  clear hfg b0 b1 b2 b3 b4 b5 b6 b7
  have hM1:=HH.o.keep k1 (λ b e=>e.elim)
  have HM1:=sE hM1
  have st1:=HS.o.keep k1 (λ e=>e.elim) (λ e=>e.elim) (λ _ _ _ e=>e.elim)
  obtain⟨b0,b1,b2,b3,b4,b5,b6,b7⟩:=Cs st1.blk
  have HS1:=sE st1
  clear hM1 st1 k1
  go_wp2_with fail
  refine(Set_yes g H mp mq S.f _ HM1.o.mbits hg).mono ?_
  rintro e w2 ⟨rfl,k2,hb2⟩
  have hne:=HM1.o.ne
  have hap:=HM1.o.ap
  have hbz:=HM1.o.bz
  have hcnt:=HM1.o.cnt
  have hsm:=HM1.o.mbits.FQ
  have hct:=countP_point S.f g HF.o H
  rw[if_pos hg,<- hcnt] at hct
  have hle:S.n+1<=H:=by rw[<- hct];exact Nat.le_trans List.countP_le_length (by simp)
  have st2:=HS1.o.keep k2 (λ e=>hne.2.2.2.1 e) (λ e=>hne.2.2.2.2.2.2.2.1 e) (λ b hb _ e=>by omega)
  have sb2:=HM1.o.sb.keep k2 (λ e=>hne.2.2.2.2.2.2.2.2.1 e.symm) (λ e=>hne.2.2.2.2.2.2.2.2.2 e.symm)
  have HK2:=sE k2
  have HB2:=sE hb2
  have HS2:=sE st2
  have HSb2:=sE sb2
  have HCt:=sE hct
  clear b0 b1 b2 b3 b4 b5 b6 b7 hb2 sb2 hct hcnt hne hap
  obtain⟨b0,b1,b2,b3,b4,b5,b6,b7⟩:=Cs st2.blk
  have f7:=Ab st2.blk 7
  clear st2
  go_wp2_with fail
  obtain⟨w3,hw3⟩:∃ w3,w3=w2.setCell ⟨mb,7,none⟩ (.int .i64 ((S.n:Int)+1)):=⟨_,rfl⟩
  have k3:Kp (λ k=>k=mb) w2 w3:=by rw[hw3];exact (Kr (λ k=>k=mb) w2).setCell (λ _=>rfl) _
  have st3:=HS2.o.turn k3 (u6:=.bool S.full) (u7:=.int .i64 ((S.n+1:Nat):Int)) (by rw[hw3];exact set8_7 HS2.o.blk _)
  rw[<- hw3]
  clear hw3 b0 b1 b2 b3 b4 b5 b6 b7 f7
  have hz3:base<=w3.heap.size:=by have:=HK2.o.size;have:=k3.size;omega
  have HK3:=sE k3
  have HS3:=sE st3
  have hnf:¬ S.f g=true:=by rw[HF.o];exact Bool.false_ne_true
  clear st3 k2 k3
  by_cases hroom:S.stk.length<cap
  .have hR:markR cap S g=⟨Ck S.f g 1 true,S.full,S.n+1,S.stk++[g],max S.deep (S.stk.length+1)⟩:=by rw[markR,if_neg hnf,if_pos hroom]
   have HR:=sE hR
   clear hR hnf
   refine(Push_room mb c cap base g _ _ _ _ _ lv S.stk S.deep w3 HS3.o hroom hz3).mono ?_
   rintro e w4 ⟨rfl,lv',st4,hat,k4⟩
   have HK4:=sE k4
   have HS4:=sE st4
   clear st4 k4 hroom
   go_wp2_with fail
   go_end0
   rw[HR.o]
   have hne:=HM1.o.ne
   have hap:=HM1.o.ap
   have hown:∀ b,base<=b\/¬ lv.ownBlock=some b:=λ b=>by
    by_cases e:lv.ownBlock=some b
    .exact .inl (Ad HS3.o.row e).1
    .exact .inr e
   refine⟨rfl,lv',⟨HS4.o,?_,?_,HCt.o.symm,hap,HM1.o.ne,Nat.le_trans hz3 HK4.o.size⟩,λ b hb=>?_,?_⟩
   .exact (HSb2.o.keep HK3.o (λ e=>hne.1 e.symm) (λ e=>hne.2.1 e.symm)).keep HK4.o (λ e=>by rcases e with e|e|e;exact hne.1 e.symm;exact hne.2.2.2.2.1 e.symm;exact (by have:=hown sp;rcases this with h|h;omega;exact h e)) (λ e=>by rcases e with e|e|e;exact hne.2.1 e.symm;exact hne.2.2.2.2.2.1 e.symm;exact (by have:=hown sq;rcases this with h|h;omega;exact h e))
   .exact (HB2.o.keep HK3.o (λ e=>hne.2.2.1 e.symm) (λ e=>hne.2.2.2.1 e.symm)).keep HK4.o (λ e=>by rcases e with e|e|e;exact hne.2.2.1 e.symm;exact hne.2.2.2.2.2.2.1 e.symm;exact (by have:=hown mp;rcases this with h|h;omega;exact h e)) (λ e=>by rcases e with e|e|e;exact hne.2.2.2.1 e.symm;exact hne.2.2.2.2.2.2.2.1 e.symm;exact (by have:=hown mq;rcases this with h|h;omega;exact h e))
   .rcases hat b hb with h|h
    .exact .inl h
    .right
     have:=HK1.o.size
     have:=HK2.o.size
     have:=HK3.o.size
     omega
   .exact ((HK1.o.mono λ_ _ e=>e.elim).trans (HK2.o) (λ i _ e=>.inr (.inr (.inl e)))).trans ((show Kp (MarkS mb c mq lv) w2 w3 from HK3.o.mono (λ i _ e=>.inl e)).trans HK4.o (λ i _ e=>by rcases e with e|e|e;exact .inl e;exact .inr (.inl e);exact .inr (.inr (.inr e)))) (λ i _ e=>e)
  .have hfullq:S.stk.length=cap:=by have:=HS3.o.le;omega
   have hR:markR cap S g=⟨Ck S.f g 1 true,true,S.n+1,S.stk,S.deep⟩:=by rw[markR,if_neg hnf,if_neg hroom]
   have HR:=sE hR
   clear hR hnf hroom
   refine(Push_full mb c cap base g _ _ _ _ _ lv S.stk S.deep w3 HS3.o hfullq).mono ?_
   rintro e w4 ⟨rfl,rfl⟩
   have f6:=Ab HS3.o.blk 6
   obtain⟨b0,b1,b2,b3,b4,b5,b6,b7⟩:=Cs HS3.o.blk
   clear hfullq
   go_wp2_with fail
   obtain⟨w5,hw5⟩:∃ w5,w5=w4.setCell ⟨mb,6,none⟩ (.bool true):=⟨_,rfl⟩
   have k5:Kp (λ k=>k=mb) w4 w5:=by rw[hw5];exact (Kr (λ k=>k=mb) w4).setCell (λ _=>rfl) _
   have st5:=HS3.o.turn k5 (u6:=.bool true) (u7:=.int .i64 ((S.n+1:Nat):Int)) (by rw[hw5];exact set8_6 HS3.o.blk _)
   rw[<- hw5]
   go_end0
   rw[HR.o]
   have hne:=HM1.o.ne
   have hap:=HM1.o.ap
   refine⟨rfl,lv,⟨st5,?_,?_,HCt.o.symm,hap,HM1.o.ne,Nat.le_trans hz3 k5.size⟩,λ b hb=>.inl hb,?_⟩
   .exact (HSb2.o.keep HK3.o (λ e=>hne.1 e.symm) (λ e=>hne.2.1 e.symm)).keep k5 (λ e=>hne.1 e.symm) (λ e=>hne.2.1 e.symm)
   .exact (HB2.o.keep HK3.o (λ e=>hne.2.2.1 e.symm) (λ e=>hne.2.2.2.1 e.symm)).keep k5 (λ e=>hne.2.2.1 e.symm) (λ e=>hne.2.2.2.1 e.symm)
   .exact ((HK1.o.mono λ_ _ e=>e.elim).trans (HK2.o) (λ i _ e=>.inr (.inr (.inl e)))).trans (HK3.o.trans k5 (λ i _ e=>e)) (λ i _ e=>.inl e)
 .go_wp2_with fail
  go_end0
  refine⟨rfl,lv,?_,λ b hb=>.inl hb,k1.mono λ_ _ h=>h.elim⟩
  have:markR cap S g=S:=by rw[markR,if_pos hfg]
  rw[this]
  exact HH.o.keep k1 (λ b e=>e.elim)

open Go.RowKit

inductive MReach (KF:Nat->List Nat) (rs:Nat->Prop):Nat->Prop
 |root {g:Nat}:rs g->MReach KF rs g
 |step {g k:Nat}:MReach KF rs g->k∈KF g->MReach KF rs k

structure MInv(KF:Nat->List Nat)(T rs:Nat->Prop)(cap:Nat)(X:Nat->Prop)(S:MS):Prop where
 re:∀ g,S.f g=true->T g/\MReach KF rs g
 st:∀ g∈S.stk,S.f g=true
 ln:S.stk.length<=S.n
 fl:S.full=true->cap<S.n
 cl:S.full=false->∀ g,S.f g=true->g∈S.stk\/X g\/∀ k∈KF g,S.f k=true

structure MExt(S S':MS):Prop where
 f:∀ g,S.f g=true->S'.f g=true
 n:S.n<=S'.n
 up:S.full=true->S'.full=true
 dn:S'.full=true->S.full=true\/S.n<S'.n
 mu:S'.stk.length+2*S.n<=S.stk.length+2*S'.n

theorem MExt.refl(S:MS):MExt S S:=⟨λ _ h=>h,Nat.le_refl _,λ h=>h,λ h=>.inl h,Nat.le_refl _⟩

theorem MExt.trans{A B C:MS}(h:MExt A B)(k:MExt B C):MExt A C:=
 ⟨λ g e=>k.f g (h.f g e),Nat.le_trans h.n k.n,λ e=>k.up (h.up e),λ e=>by
  have h1:=h.n
  have h2:=k.n
  rcases k.dn e with e|e
  .rcases h.dn e with e|e
   .exact .inl e
   .exact .inr (by omega)
  .exact .inr (by omega),by have:=h.mu;have:=k.mu;omega⟩

theorem Cf{f:Nat->Bool}{g k:Nat}:Ck f g 1 true k=true ↔ k=g\/f k=true:=by
 unfold Ck
 by_cases h:g<=k/\k<g+1
 .rw [if_pos h]
  exact⟨λ _=>.inl (by omega),λ _=>rfl⟩
 .rw [if_neg h]
  exact⟨λ e=>.inr e,λ e=>e.elim (λ e=>absurd ⟨by omega,by omega⟩ h) id⟩

theorem markR_inv{KF:Nat->List Nat}{T rs:Nat->Prop}{cap:Nat}{X:Nat->Prop}{S:MS}(h:MInv KF T rs cap X S){g:Nat}(ht:T g)(hr:MReach KF rs g):MInv KF T rs cap X (markR cap S g)/\(markR cap S g).f g=true/\MExt S (markR cap S g):=by
 unfold markR
 by_cases h1:S.f g=true
 .rw [if_pos h1]
  exact⟨h,h1,MExt.refl S⟩
 .rw [if_neg h1]
  by_cases h2:S.stk.length<cap
  .rw [if_pos h2]
   refine⟨⟨λ x hx=>?_,λ x hx=>?_,?_,λ hf=>?_,λ hf x hx=>?_⟩,Cf.2 (.inl rfl),⟨λ x hx=>Cf.2 (.inr hx),Nat.le_succ _,λ e=>e,λ e=>.inl e,?_⟩⟩
   .rcases Cf.1 hx with e|e
    .subst e
     exact⟨ht,hr⟩
    .exact h.re x e
   .rcases List.mem_append.1 hx with e|e
    .exact Cf.2 (.inr (h.st x e))
    .exact Cf.2 (.inl (by simpa using e))
   .have:=h.ln
    simp
    omega
   .have:=h.fl hf
    show cap<S.n+1
    omega
   .rcases Cf.1 hx with e|e
    .subst e
     exact .inl (by simp)
    .rcases h.cl hf x e with e|e|e
     .exact .inl (by simp[e])
     .exact .inr (.inl e)
     .exact .inr (.inr λ k hk=>Cf.2 (.inr (e k hk)))
   .simp
    omega
  .rw [if_neg h2]
   refine⟨⟨λ x hx=>?_,λ x hx=>Cf.2 (.inr (h.st x hx)),Nat.le_succ_of_le h.ln,λ hf=>?_,λ hf=>by cases hf⟩,Cf.2 (.inl rfl),⟨λ x hx=>Cf.2 (.inr hx),Nat.le_succ _,λ e=>rfl,λ e=>.inr (Nat.lt_succ_self _),?_⟩⟩
   .rcases Cf.1 hx with e|e
    .subst e
     exact⟨ht,hr⟩
    .exact h.re x e
   .have:=h.ln
    show cap<S.n+1
    omega
   .simp
    omega

theorem MInv.pop{KF:Nat->List Nat}{T rs:Nat->Prop}{cap:Nat}{X:Nat->Prop}{S:MS}{stk:List Nat}{g:Nat}(h:MInv KF T rs cap X S)(hs:S.stk=stk++[g]):MInv KF T rs cap (λ x=>X x\/x=g) ⟨S.f,S.full,S.n,stk,S.deep⟩/\S.f g=true:=by
 refine⟨⟨h.re,λ x hx=>h.st x (by rw[hs];simp [hx]),?_,h.fl,λ hf x hx=>?_⟩,h.st g (by rw[hs];simp)⟩
 .have:=h.ln
  rw[hs] at this
  simp at this
  show stk.length<=S.n
  omega
 .rcases h.cl hf x hx with e|e|e
  .rw [hs] at e
   rcases List.mem_append.1 e with e|e
   .exact .inl e
   .exact .inr (.inl (.inr (by simpa using e)))
  .exact .inr (.inl (.inl e))
  .exact .inr (.inr e)

theorem MInv.close{KF:Nat->List Nat}{T rs:Nat->Prop}{cap:Nat}{X:Nat->Prop}{S:MS}{g:Nat}(h:MInv KF T rs cap (λ x=>X x\/x=g) S)(hk:∀ k∈KF g,S.f k=true):MInv KF T rs cap X S:=
 ⟨h.re,h.st,h.ln,h.fl,λ hf x hx=>by
  rcases h.cl hf x hx with e|(e|e)|e
  .exact .inl e
  .exact .inr (.inl e)
  .exact .inr (.inr (by rw[e];exact hk))
  .exact .inr (.inr e)⟩

theorem MInv.mono{KF:Nat->List Nat}{T rs:Nat->Prop}{cap:Nat}{X Y:Nat->Prop}{S:MS}(h:MInv KF T rs cap X S)(hxy:∀ g,X g->Y g):MInv KF T rs cap Y S:=
 ⟨h.re,h.st,h.ln,h.fl,λ hf x hx=>by
  rcases h.cl hf x hx with e|e|e
  .exact .inl e
  .exact .inr (.inl (hxy x e))
  .exact .inr (.inr e)⟩

def muW(mb H:Nat)(w:World):Nat:=
 match w.cell? ⟨mb,7,none⟩,w.cell? ⟨mb,4,none⟩ with
 |some (.int _ n),some (.slice _ l _)=>2*(H-n.toNat)+l
 |_,_=>0

theorem muW_at{w:World}{mb c cap base:Nat}{v0:Value}{sp sq mp mq H:Nat}{fs:Nat->Bool}{lv:Value}{S:MS}(h:MarkAt w mb c cap base v0 sp sq mp mq H fs lv S):muW mb H w=2*(H-S.n)+S.stk.length:=by
 obtain⟨-,-,-,-,b4,-,-,b7⟩:=Cs h.st.blk
 unfold muW
 rw[b4,b7]
 rcases h.st.row.2 with ⟨e,e0⟩|⟨g,cap,cur,e,_⟩
 .rw [e,e0]
  simp
 .rw [e]
  simp

theorem MarkAt.n_le{w:World}{mb c cap base:Nat}{v0:Value}{sp sq mp mq H:Nat}{fs:Nat->Bool}{lv:Value}{S:MS}(h:MarkAt w mb c cap base v0 sp sq mp mq H fs lv S):S.n<=H:=by
 rw[h.cnt]
 exact Nat.le_trans List.countP_le_length (by simp)

def b01:Value->Nat
 |.bool true=>1
 |_=>0

attribute [local go_sem] Oper.semAt_some

def tgtsC(ts:List TypR)(W:Nat->Nat)(c:Cel):List Nat:=Fz W c.g (BQ ts c)

def kidOf(fs:Nat->Bool)(H y:Nat):List Nat:=if 1048576<=y/\y<1114112/\(y-1048576)%2=0/\EH fs H (((y-1048576)/2:Nat):Int)=true then [(y-1048576)/2] else []

def Fx(fs:Nat->Bool)(H:Nat)(ys:List Nat)(j:Nat):List Nat:=(ys.take j).flatMap (kidOf fs H)

theorem kidL_succ{fs:Nat->Bool}{H:Nat}{ys:List Nat}{j y:Nat}(h:ys[j]?=some y):Fx fs H ys (j+1)=Fx fs H ys j++kidOf fs H y:=by
 unfold Fx
 rw[List.take_add_one,h,List.flatMap_append]
 simp

theorem kidL_len(fs:Nat->Bool)(H:Nat)(ys:List Nat):∀ j,(Fx fs H ys j).length<=j
 |0=>by simp[Fx]
 |j+1=>by
  cases h:ys[j]? with
  |some y=>
   rw[kidL_succ h,List.length_append]
   have:=kidL_len fs H ys j
   have:(kidOf fs H y).length<=1:=by unfold kidOf;split <;> simp
   omega
  |none=>
   have h1:Fx fs H ys (j+1)=Fx fs H ys j:=by unfold Fx;rw [List.take_add_one,h];simp
   rw[h1]
   exact Nat.le_succ_of_le (kidL_len fs H ys j)

theorem row_u64{w:World}{base:Nat}{e:TypeId}{a:Option Addr}{n c:Nat}{xs:List Nat}{i x:Nat}(h:w.ownsRow base e 1 (.slice a n c) n (u64Vs xs))(hx:xs[i]?=some x):∃ b,a=some ⟨b,0,none⟩/\w.cell? ⟨b,i,none⟩=some (.int .u64 x):=by
 have hi:=(gE.1 hx).1
 have hn:xs.length=n:=by have:=h.1;simpa [u64Vs] using this
 rcases h.2 with ⟨-,h0⟩|⟨g,cap,cur,hv,g2,g3,g4,g5,g6,g7⟩
 .omega
 .injection hv with h1 h2 h3
  refine⟨g,h1,?_⟩
  have:cur.toList[i]?=some (.int .u64 x):=by
   rw[<- List.getElem?_take_of_lt (j:=n*1) (by omega),g7,u64Vs,List.getElem?_map,hx]
   rfl
  simp only[World.cell?,g3]
  rw[<- this]
  simp

theorem SOf_full(c:Cel)(P:Sp)(W:Nat->Nat)(f:Nat->Bool)(cs:List Cel)(w:World)(h:SpaceAt w P W f)(hc:CellsAt P W cs)(hm:c∈cs)(ht:c.tag=1):
  Calls prog 30 #[.pointer (some P.a),.pointer (some P.t),c.g] w λ e w'=>
   ∃ b k wds m,(typeOf P.ts (c.ty:Nat)=some ⟨k,wds,m⟩/\AU k wds m (c.ln:Nat)=0/\AZ k wds (c.ln:Nat)=(slotN P.ts c:Nat))/\e=.returned (.tuple #[.pointer (some ⟨b,0,none⟩),(0:Int)])/\Ce w' b P.a c k wds m/\w.heap.size<=b/\Kp Aa w w':=by
 refine(SOf_any (c.g:Nat) P.a P.q P.n P.t P.tq W P.ts w h.fl h.ar h.tb).mono ?_
 intro e w' hp
 unfold Db at hp
 rw[hc.obj hm ht] at hp
 obtain⟨b,k,wds,m,h1,h2,h3,h4,h5⟩:=hp
 have hk:=kind_of hc hm ht h1
 refine⟨b,k,wds,m,⟨h1,hk,?_⟩,h2,h3,h4,h5⟩
 unfold slotN
 rw[if_pos ht,h1]
 dsimp only
 have:=(Bj hk).1
 omega

def KidsPost(L:List Nat)(w:World)(e:Ending)(w':World):Prop:=
 ∃ a n c,e=.returned (.slice a n c)/\w'.ownsRow w.heap.size 3 1 (.slice a n c) n (Az L)/\Kp Aa w w'

set_option maxRecDepth 20000 in
theorem Kids_at(P:Sp)(W:Nat->Nat)(f:Nat->Bool)(cs:List Cel)(c:Cel)(mb c0 cap base:Nat)(sp sq mp mq H:Nat)(fs:Nat->Bool)(lv:Value)(S:MS)(w:World)(hsp:SpaceAt w P W f)(hc:CellsAt P W cs)(hm:c∈cs)(ht:c.tag=1)(hms:∀ x∈P.ts,x.m<18446744073709551616)
  (h:MarkAt w mb c0 cap base (.pointer (some P.s)) sp sq mp mq H fs lv S):
  Calls prog 171 #[.pointer (some mb),c.g] w (KidsPost (Fx fs H (tgtsC P.ts W c) (tgtsC P.ts W c).length) w):=by
 have hst:=h.st
 obtain⟨b0,b1,-,-,-,-,-,-⟩:=Cs hst.blk
 have hsm:=hsp.ar.small
 have HFit:Sl (2*c.g+1+slotN P.ts c<=P.n):=⟨by
  have h1:=slotN_room (hc.ok c hm) (hc.tl.mem hm).2.2
  have h2:=(hc.tl.mem hm).2.1
  have h3:=hsp.ev
  unfold Cel.fin at*
  omega⟩
 have HAr:Sl (∀ w',Kp Aa w w'->Calls prog 31 #[.pointer (some P.s)] w' λ e w''=>e=.returned (.pointer (some P.a))/\w''=w'):=⟨λ w' kk=>FR P W f w' (hsp.Ac kk)⟩
 have HTb:Sl (∀ w',Kp Aa w w'->Calls prog 32 #[.pointer (some P.s)] w' λ e w''=>e=.returned (.pointer (some P.t))/\w''=w'):=⟨λ w' kk=>STable_at P W f w' (hsp.Ac kk)⟩
 have HOf:=sE (λ w' (kk:Kp Aa w w')=>SOf_full c P W f cs w' (hsp.Ac kk) hc hm ht)
 have HSp:=sE hsp
 have HHas:Sl (∀ (i:Int) W',Kp Aa w W'->Calls prog 58 #[.pointer (some sp),.int .i64 i] W' (RK (.bool (EH fs H i)) W')):=⟨λ i W' kk=>Has_int i H sp sq fs W' (h.sb.keep kk id id)⟩
 have HMs:=sE hms
 clear h hst hsp hc hm ht hms hsm
 go_enter func171,ntmps171
 go_wp2_with fail
 go_region_held3 (λ w'=>w'.cell? mb=some (.pointer (some P.s)))
  (first|exact b0|exact Ae KU b0)
  (first
   |(go_at_call 31;(with_reducible refine(HAr.o _ KU).mono ?_);rintro e w2 ⟨rfl,rfl⟩)
   |(go_at_call 32;(with_reducible refine(HTb.o _ KU).mono ?_);rintro e w3 ⟨rfl,rfl⟩)
   |(go_at_call 30;(with_reducible refine(HOf.o _ KU).mono ?_);rintro e w4 ⟨b,kd,wds,mk,hE,rfl,hV,hb,k4⟩;have K4:Kp Aa w w4:=Kp.then' KU k4))
 obtain⟨h1,hE0,hSl⟩:=hE
 have hmk:mk<18446744073709551616:=HMs.o ⟨kd,wds,mk⟩ (by
  unfold typeOf at h1
  split at h1
  .exact List.mem_of_getElem? h1
  .cases h1)
 have hys:tgtsC P.ts W c=Fz W c.g (BP kd wds mk (c.ln:Nat)):=by
  unfold tgtsC BQ
  rw[h1]
 have HSp4:=HSp.o.Ac K4
 have HTg:=sE (Targets_at b P.a P.q P.n W c kd wds mk w4 HSp4.ar hV hE0 hmk (by rw[hSl];have:=HFit.o;omega))
 obtain⟨ys,hysq⟩:∃ ys,tgtsC P.ts W c=ys:=⟨_,rfl⟩
 have hylt:∀ y∈ys,y<18446744073709551616:=λ y hy=>by
  rw[<- hysq,hys] at hy
  unfold Fz at hy
  obtain⟨hy,-⟩:=List.mem_filter.1 hy
  obtain⟨s,hs,rfl⟩:=List.mem_map.1 hy
  have hs2:=refsT_mem hE0 hs
  exact HSp4.ar.fits _ (by have:=HFit.o;omega)
 have hylen:ys.length<=65536:=by
  rw[<- hysq,hys]
  exact Nat.le_trans (tgtL_len _ _ _) (by have:=Eh (M:=mk) hE0;omega)
 rw[<- hys,hysq] at HTg
 have HYq:=sE hysq
 have HYlt:=sE hylt
 have HK4:=sE K4
 have c1:=K4.cell b1 id
 clear h1 hE0 hSl hys HSp4 hysq hylt K4 k4 hV hb b0 b1 HAr HTb HOf
 go_wp2_with fail
 refine HTg.o.mono ?_
 rintro e w5 ⟨tv,rfl,own5,k5⟩
 obtain⟨ta,tc,rfl⟩:=Aq own5
 have HO5:=sE own5
 have HK5:=sE (HK4.o.then' k5)
 have c1':=k5.cell c1 id
 have z5:w.heap.size<=w5.heap.size:=HK5.o.size
 clear own5 k5 c1
 go_wp2_with fail
 obtain⟨B,hB⟩:∃ B,w5.heap.size=B:=⟨_,rfl⟩
 obtain⟨L,hL⟩:∃ L,ys.length=L:=⟨_,rfl⟩
 have HBw:=sE hB
 have HL:=sE hL
 rw[hB] at z5
 rw[hL] at hylen
 simp only[hL]
 rw[hL] at HO5
 go_loopw [4,8,9,10,31] (λ x4 _ _ _ x31 wr=>∃ j:Nat,j<=L/\x31=.int .i64 j/\(∃ a n c,x4=.slice a n c)/\wr.ownsRow B 3 1 x4 (Fx fs H ys j).length (Az (Fx fs H ys j))/\Kp Aa w5 wr/\B<=wr.heap.size) (λ _ _ _ _ x31 _=>L-(intOf x31).toNat)
 case atStart=>exact ⟨0,by omega,rfl,⟨_,_,_,rfl⟩,World.ownsRow_nil _ _ _ _,Kr _ _,by omega⟩
 case round=>
  obtain⟨j,hj,rfl,⟨la,ln,lc,rfl⟩,ho,hk,hsz⟩:=hrel
  have HO:=sE ho
  have HK:=sE hk
  by_cases hjl:j<L
  .have hjl':(j:Int)<(L:Int):=by omega
   have hyj:ys[j]?=some (ys[j]'(by rw[HL.o];exact hjl)):=List.getElem?_eq_getElem _
   obtain⟨y,hy⟩:∃ y,ys[j]'(by rw[HL.o];exact hjl)=y:=⟨_,rfl⟩
   rw[hy] at hyj
   obtain⟨tb,rfl,hcell⟩:=row_u64 HO5.o hyj
   have hylt:=HYlt.o y (List.mem_of_getElem? hyj)
   have HAdd:=sE (kidL_succ (fs:=fs) (H:=H) hyj)
   have HLn:Sl ((Fx fs H ys j).length<=65536):=⟨by have:=kidL_len fs H ys j;omega⟩
   replace hcell:=hk.cell hcell id
   have c1w:=hk.cell c1' id
   clear ho hk hB hL hy hyj
   by_cases hw1:1048576<=y/\y<1114112
   .obtain ⟨k,rfl⟩:∃ k,y=1048576+k:=⟨y-1048576,by omega⟩
    have hk6:k<65536:=by omega
    have HW:Sl (∀ W',Calls prog 174 #[.int .u64 ((1048576+k:Nat):Int)] W' λ e w'=>e=.returned (.tuple #[.int .i64 (k:Nat),.bool true])/\w'=W'):=⟨λ W'=>SWord_yes k W' hk6⟩
    have HKid:Sl (kidOf fs H (1048576+k)=if k%2=0/\EH fs H ((k:Int)/2)=true then [k/2] else []):=⟨by
     unfold kidOf
     rw[Nat.add_sub_cancel_left,show (((k/2:Nat):Int))=(k:Int)/2 by omega]
     by_cases q:k%2=0/\EH fs H ((k:Int)/2)=true
     .rw [if_pos q,if_pos ⟨by omega,by omega,q.1,q.2⟩]
     .rw [if_neg q,if_neg (λ h=>q ⟨h.2.2.1,h.2.2.2⟩)]⟩
    clear hw1 hylt
    obtain⟨y,hyq⟩:∃ y,1048576+k=y:=⟨_,rfl⟩
    rw[hyq] at hcell HW HKid HAdd
    clear hyq
    by_cases q1:k%2=0
    .have p1:((k:Int)%2==0)=true:=by simp;omega
     have HHk:=HHas.o ((k:Int)/2)
     cases q2:EH fs H ((k:Int)/2) with
     |true=>
      rw[q2] at HHk
      rw[HKid.o,if_pos ⟨q1,q2⟩] at HAdd
      have HHs:=sE HHk
      clear q1 q2 HHk HKid
      go_wp2_with fail
      refine(HW.o _).mono ?_
      rintro e w6 ⟨rfl,rfl⟩
      go_wp2_with fail
      refine(HHs.o _ (HK5.o.then' HK.o)).mono ?_
      rintro e w7 ⟨rfl,k7⟩
      have HK7:=sE (HK.o.then' k7)
      have HR7:=sE (Af HO.o k7 (λ _ _ h=>h))
      have hz7:=k7.size
      clear k7
      have HD:Sl ((k:Int)/2=((k/2:Nat):Int)):=⟨by omega⟩
      go_wp2_with (at_builtin;obtain ⟨i0,hi,hz0,hz1,hz2⟩:=info_parts Be;go_loud (refine wpList_append_lies _ rfl (.tmp 55) (.tmp 58) 24 rfl B 3 i0 _ 1 8 Ar hi hz0 hz1 hz2 rfl (by omega) (.slice la ln lc) (Fx fs H ys j).length (Az (Fx fs H ys j)) rfl (HR7.o.alloc _) ⟨w7.heap.size,0,none⟩ 1 1 [.int .i64 ((k:Int)/2)] rfl rfl (World.news_of_block (wN w7 _)) (by intro u hu;simp at hu;subst hu;rfl) (by omega) (by have:=HLn.o;unfold maxLen;omega) (by have:=HLn.o;omega) (by simp;omega) (w7.heap.size+1) (by simp) ?_);intro gn capn w8 hown8 hgrow hat hlt;clear hi hz0 hz1 hz2;have HGr:=sE hgrow;have HR8:=sE hown8;clear hown8 hgrow hat)
      have k8:Kp (λ k=>B<=k) w7 w8:=((Kr Aa w7).alloc (.cells #[.int .i64 ((k:Int)/2)] 3) |>.Aw _).grown HGr.o (λ k e _=>(Ad HR7.o e).1)
      have hR:w8.ownsRow B 3 1 (.slice (some ⟨gn,0,none⟩) ((Fx fs H ys j).length+1) capn) (Fx fs H ys (j+1)).length (Az (Fx fs H ys (j+1))):=by
       have:=HR8.o
       rw[HD.o] at this
       rw[HAdd.o,Az,List.map_append,List.length_append]
       exact this
      have hz8:=k8.size
      exact⟨⟨j+1,by omega,by go_num,⟨_,_,_,rfl⟩,hR,((HK7.o.Aw (λ k=>B<=k)).trans k8 (λ _ _ h=>h)).mono (λ i hi h=>by have:=HBw.o;omega),by omega⟩,by simp only[intOf];omega⟩
     |false=>
      rw[q2] at HHk
      rw[HKid.o,if_neg (by rw[q2];simp),List.append_nil] at HAdd
      have HHs:=sE HHk
      clear q1 q2 HHk HKid
      go_wp2_with fail
      refine(HW.o _).mono ?_
      rintro e w6 ⟨rfl,rfl⟩
      go_wp2_with fail
      refine(HHs.o _ (HK5.o.then' HK.o)).mono ?_
      rintro e w7 ⟨rfl,k7⟩
      have HK7:=sE (HK.o.then' k7)
      have HR7:=sE (Af HO.o k7 (λ _ _ h=>h))
      have hz7:=k7.size
      clear k7
      go_wp2
      exact⟨⟨j+1,by omega,by go_num,⟨_,_,_,rfl⟩,by rw[HAdd.o];exact HR7.o,HK7.o,by omega⟩,by simp only[intOf];omega⟩
    .have p1:((k:Int)%2==0)=false:=by simp;omega
     rw[HKid.o,if_neg (λ h=>q1 h.1),List.append_nil] at HAdd
     clear q1 HKid
     go_wp2_with fail
     refine(HW.o _).mono ?_
     rintro e w6 ⟨rfl,rfl⟩
     go_wp2
     exact⟨⟨j+1,by omega,by go_num,⟨_,_,_,rfl⟩,by rw[HAdd.o];exact HO.o,HK.o,hsz⟩,by simp only[intOf];omega⟩
   .have HW:Sl (∀ W',Calls prog 174 #[.int .u64 (y:Nat)] W' λ e w'=>e=.returned (.tuple #[(0:Int),.bool false])/\w'=W'):=⟨λ W'=>SWord_no y W' (by omega) hylt⟩
    have HE:Sl (Fx fs H ys (j+1)=Fx fs H ys j):=⟨by
     rw[HAdd.o,kidOf,if_neg (λ h=>hw1 ⟨h.1,h.2.1⟩),List.append_nil]⟩
    clear hw1 hylt
    go_wp2_with fail
    refine(HW.o _).mono ?_
    rintro e w6 ⟨rfl,rfl⟩
    go_wp2
    exact⟨⟨j+1,by omega,by go_num,⟨_,_,_,rfl⟩,by rw[HE.o];exact HO.o,HK.o,hsz⟩,by simp only[intOf];omega⟩
  .obtain rfl:j=L:=by omega
   clear ho hk hB hL
   go_wp2_with fail
   go_ret
   obtain⟨a',c',hv⟩:=Aq HO.o
   injection hv with v1 v2 v3
   refine⟨la,ln,lc,rfl,?_,HK5.o.then' HK.o⟩
   rw[HYq.o,HL.o,v2]
   have:=Cq HO.o z5
   rw[v2] at this
   exact this

end

section
open Go.RowKit Go.Conc

structure MCtx(KF:Nat->List Nat)(T rs:Nat->Prop)(mb c cap base:Nat)(v0:Value)(sp sq mp mq H:Nat)(fs:Nat->Bool)(I:World->Prop):Prop where
 hI:∀ w w',I w->Kp (λ k=>k=mb\/k=c\/k=mq\/base<=k) w w'->I w'
 hK:∀ g,T g->∀ w lv S,I w->MarkAt w mb c cap base v0 sp sq mp mq H fs lv S->Calls prog 171 #[.pointer (some mb),.int .i64 (g:Nat)] w (KidsPost (KF g) w)
 hT:∀ g,T g->g<H
 hKT:∀ g,T g->∀ k∈KF g,T k
 hl:∀ g,T g->(KF g).length<=65536

structure MSt(KF:Nat->List Nat)(T rs:Nat->Prop)(mb c cap base:Nat)(v0:Value)(sp sq mp mq H:Nat)(fs:Nat->Bool)(I:World->Prop)(X:Nat->Prop)(w0:World)(lv0:Value)(S0:MS)(w:World)(lv:Value)(S:MS):Prop where
 at_:MarkAt w mb c cap base v0 sp sq mp mq H fs lv S
 inv:MInv KF T rs cap X S
 ext:MExt S0 S
 hi:I w
 own:∀ b,lv.ownBlock=some b->lv0.ownBlock=some b\/w0.heap.size<=b
 kp:Kp (MarkS mb c mq lv0) w0 w

theorem MarkAt.ge{w:World}{mb c cap base:Nat}{v0:Value}{sp sq mp mq H:Nat}{fs:Nat->Bool}{lv:Value}{S:MS}(h:MarkAt w mb c cap base v0 sp sq mp mq H fs lv S){b:Nat}(hb:lv.ownBlock=some b):base<=b:=(Ad h.st.row hb).1

section
variable {KF:Nat->List Nat} {T rs:Nat->Prop} {mb c cap base:Nat} {v0:Value} {sp sq mp mq H:Nat} {fs:Nat->Bool} {I:World->Prop} {X Y:Nat->Prop} {w0 w1 w2:World} {lv0 lv1 lv2:Value} {S0 S1 S2:MS}

theorem MSt.trans(h:MSt KF T rs mb c cap base v0 sp sq mp mq H fs I X w0 lv0 S0 w1 lv1 S1)(k:MSt KF T rs mb c cap base v0 sp sq mp mq H fs I Y w1 lv1 S1 w2 lv2 S2):MSt KF T rs mb c cap base v0 sp sq mp mq H fs I Y w0 lv0 S0 w2 lv2 S2:=
 ⟨k.at_,k.inv,h.ext.trans k.ext,k.hi,λ b hb=>by
  rcases k.own b hb with e|e
  .exact h.own b e
  .exact .inr (Nat.le_trans h.kp.size e),h.kp.trans k.kp (λ i hi e=>by
  rcases e with e|e|e|e
  .exact .inl e
  .exact .inr (.inl e)
  .exact .inr (.inr (.inl e))
  .rcases h.own i e with e|e
   .exact .inr (.inr (.inr e))
   .omega)⟩

theorem MSt.refl(h:MarkAt w0 mb c cap base v0 sp sq mp mq H fs lv0 S0)(k:MInv KF T rs cap X S0)(hi:I w0):MSt KF T rs mb c cap base v0 sp sq mp mq H fs I X w0 lv0 S0 w0 lv0 S0:=
 ⟨h,k,MExt.refl _,hi,λ b hb=>.inl hb,Kr _ _⟩

theorem MSt.new(C:MCtx KF T rs mb c cap base v0 sp sq mp mq H fs I)(h:MSt KF T rs mb c cap base v0 sp sq mp mq H fs I X w0 lv0 S0 w1 lv1 S1)(k:Kp Aa w1 w2):MSt KF T rs mb c cap base v0 sp sq mp mq H fs I X w0 lv0 S0 w2 lv1 S1:=
 ⟨h.at_.keep k (λ b e=>e.elim),h.inv,h.ext,C.hI _ _ h.hi (k.mono λ_ _ e=>e.elim),h.own,h.kp.trans k (λ i _ e=>e.elim)⟩

theorem MSt.inv'(h:MSt KF T rs mb c cap base v0 sp sq mp mq H fs I X w0 lv0 S0 w1 lv1 S1)(k:MInv KF T rs cap Y S1):MSt KF T rs mb c cap base v0 sp sq mp mq H fs I Y w0 lv0 S0 w1 lv1 S1:=
 ⟨h.at_,k,h.ext,h.hi,h.own,h.kp⟩

theorem MSt.mark(C:MCtx KF T rs mb c cap base v0 sp sq mp mq H fs I)(h:MSt KF T rs mb c cap base v0 sp sq mp mq H fs I X w0 lv0 S0 w1 lv1 S1){g:Nat}(ht:T g)(hr:MReach KF rs g):
  Calls prog 123 #[.pointer (some mb),g] w1 λ e w'=>e=.returned (.tuple #[])/\∃ lv' S',MSt KF T rs mb c cap base v0 sp sq mp mq H fs I X w1 lv1 S1 w' lv' S'/\S'.f g=true:=by
 refine(Mark_at mb c cap base v0 sp sq mp mq H fs lv1 S1 g (C.hT g ht) w1 h.at_).mono ?_
 rintro e w' ⟨he,lv',hM,hown,hk⟩
 obtain⟨h1,h2,h3⟩:=markR_inv h.inv ht hr
 exact ⟨he, lv', _, ⟨hM, h1, h3, C.hI _ _ h.hi (hk.mono λ i _ e=>by
  rcases e with e|e|e|e
  .exact .inl e
  .exact .inr (.inl e)
  .exact .inr (.inr (.inl e))
  .exact .inr (.inr (.inr (h.at_.ge e)))),hown,hk⟩,h2⟩

def PopSt(KF:Nat->List Nat)(T rs:Nat->Prop)(mb c cap base:Nat)(v0:Value)(sp sq mp mq H:Nat)(fs:Nat->Bool)(I:World->Prop)(X:Nat->Prop)(w0:World)(lv0:Value)(S0:MS)(e:Ending)(w':World):Prop:=
 (∃ (g:Nat) (lv:Value) (S:MS),e=.returned (.tuple #[g,.bool true])/\MSt KF T rs mb c cap base v0 sp sq mp mq H fs I (λ x=>X x\/x=g) w0 lv0 S0 w' lv S/\S.f g=true/\S.stk.length+1=S0.stk.length/\S.n=S0.n)\/
  (e=.returned (.tuple #[(0:Int),.bool false])/\S0.stk=[]/\w'=w0)

theorem MSt.pop(C:MCtx KF T rs mb c cap base v0 sp sq mp mq H fs I)(h:MSt KF T rs mb c cap base v0 sp sq mp mq H fs I X w0 lv0 S0 w1 lv1 S1):
  Calls prog 170 #[.pointer (some ⟨mb,3,none⟩)] w1 (PopSt KF T rs mb c cap base v0 sp sq mp mq H fs I X w1 lv1 S1):=by
 rcases List.eq_nil_or_concat S1.stk with e|⟨stk,g,e⟩
 .have hst:=h.at_.st
  rw[e] at hst
  refine(Pop_none mb c cap base _ _ _ _ _ lv1 S1.deep w1 hst).mono ?_
  rintro e' w' ⟨rfl,rfl⟩
  exact .inr ⟨rfl,e,rfl⟩
 .have e':S1.stk=stk++[g]:=by simpa using e
  have hst:=h.at_.st
  rw[e'] at hst
  obtain⟨h1,h2⟩:=h.inv.pop e'
  refine(Pop_some mb c cap base g _ _ _ _ _ lv1 stk S1.deep w1 hst h.at_.bz).mono ?_
  rintro e2 w' ⟨rfl,lv',st',own',k'⟩
  have hne:=h.at_.ne
  have km:Kp (MarkS mb c mq lv1) w1 w':=k'.mono λ i _ e=>by
   rcases e with e|e
   .exact .inl e
   .exact .inr (.inl e)
  refine .inl ⟨g,lv',⟨S1.f,S1.full,S1.n,stk,S1.deep⟩,rfl,⟨⟨st',?_,?_,h.at_.cnt,h.at_.ap,hne,Nat.le_trans h.at_.bz k'.size⟩,h1,⟨λ _ e=>e,Nat.le_refl _,λ e=>e,λ e=>.inl e,?_⟩,C.hI _ _ h.hi (k'.mono λ i _ e=>?_),λ b hb=>.inl (own' b hb),km⟩,h2,?_,rfl⟩
  .exact h.at_.sb.keep k' (λ e=>by rcases e with e|e;exact hne.1 e.symm;exact hne.2.2.2.2.1 e.symm) (λ e=>by rcases e with e|e;exact hne.2.1 e.symm;exact hne.2.2.2.2.2.1 e.symm)
  .exact h.at_.mbits.keep k' (λ e=>by rcases e with e|e;exact hne.2.2.1 e.symm;exact hne.2.2.2.2.2.2.1 e.symm) (λ e=>by rcases e with e|e;exact hne.2.2.2.1 e.symm;exact hne.2.2.2.2.2.2.2.1 e.symm)
  .rw [e']
   simp
  .rcases e with e|e
   .exact .inl e
   .exact .inr (.inl e)
  .rw [e']
   simp

end

def DrainPost(KF:Nat->List Nat)(T rs:Nat->Prop)(mb c cap base:Nat)(v0:Value)(sp sq mp mq H:Nat)(fs:Nat->Bool)(I:World->Prop)(X:Nat->Prop)(w0:World)(lv0:Value)(S0:MS)(e:Ending)(w':World):Prop:=
 e=.returned (.tuple #[])/\∃ lv S,MSt KF T rs mb c cap base v0 sp sq mp mq H fs I X w0 lv0 S0 w' lv S/\S.stk=[]

set_option maxRecDepth 20000 in
theorem Drain_at{KF:Nat->List Nat}{T rs:Nat->Prop}{mb c cap base:Nat}{v0:Value}{sp sq mp mq H:Nat}{fs:Nat->Bool}{I:World->Prop}{X:Nat->Prop}{lv0:Value}{S0:MS}(C:MCtx KF T rs mb c cap base v0 sp sq mp mq H fs I)(w:World)(h:MarkAt w mb c cap base v0 sp sq mp mq H fs lv0 S0)(hv:MInv KF T rs cap X S0)(hi:I w):
  Calls prog 124 #[.pointer (some mb)] w (DrainPost KF T rs mb c cap base v0 sp sq mp mq H fs I X w lv0 S0):=by
 have HC:=sE C
 have HM:=sE (MSt.refl (rs:=rs) (KF:=KF) (T:=T) (I:=I) (X:=X) h hv hi)
 clear C h hv hi
 go_enter func124,ntmps124
 go_wp2_with fail
 refine(HM.o.pop HC.o).mono ?_
 intro e w1 hp
 have hp':∃ (g:Nat) (b:Bool),e=.returned (.tuple #[g,.bool b]):=by
  rcases hp with ⟨g,_,_,rfl,_⟩|⟨rfl,_⟩
  .exact ⟨g,true,rfl⟩
  .exact ⟨0,false,rfl⟩
 obtain⟨g0,b0,rfl⟩:=hp'
 have HP:=sE hp
 clear hp
 go_wp2_with fail
 go_loopw [2,3,5] (λ x2 x3 _ wr=>(∃ (g:Nat) (lv:Value) (S:MS),x2=.int .i64 g/\x3=.bool true/\MSt KF T rs mb c cap base v0 sp sq mp mq H fs I (λ x=>X x\/x=g) w lv0 S0 wr lv S/\S.f g=true)\/(x2=.int .i64 0/\x3=.bool false/\∃ (lv:Value) (S:MS),MSt KF T rs mb c cap base v0 sp sq mp mq H fs I X w lv0 S0 wr lv S/\S.stk=[])) (λ _ x3 _ wr=>muW mb H wr+b01 x3)
 case atStart=>
  rcases HP.o with ⟨g,lv,S,he,hM,hf,-⟩|⟨he,hs,rfl⟩
  .injection he with he
   injection he with he
   simp at he
   obtain⟨he1,rfl⟩:=he
   have:g0=g:=by omega
   subst this
   exact .inl ⟨_,lv,S,rfl,rfl,hM,hf⟩
  .injection he with he
   injection he with he
   simp at he
   obtain⟨he1,rfl⟩:=he
   have:g0=0:=by omega
   subst this
   exact .inr ⟨rfl,rfl,lv0,S0,HM.o,hs⟩
 case round=>
  rcases hrel with ⟨g,lv1,S1,rfl,rfl,hM,hfg⟩|⟨rfl,rfl,lv1,S1,hM,hs⟩
  .obtain ⟨hTg,hRg⟩:=hM.inv.re g hfg
   have HM1:=sE hM
   have HKd:=sE (HC.o.hK g hTg wr lv1 S1 hM.hi hM.at_)
   have HTg:=sE hTg
   have HRg:=sE hRg
   have HMu:=sE (muW_at hM.at_)
   clear hM hfg hTg hRg HP
   go_wp2_with fail
   refine HKd.o.mono ?_
   rintro e w2 ⟨ka,kn,kc,rfl,kown,kk⟩
   obtain rfl:kn=(KF g).length:=by have:=kown.1;simpa [Az] using this.symm
   obtain⟨L,hL⟩:∃ L,(KF g).length=L:=⟨_,rfl⟩
   have hL6:L<=65536:=by rw[<- hL];exact HC.o.hl g HTg.o
   rw[hL] at kown
   simp only[hL]
   have HL:=sE hL
   have HOw:=sE kown
   have HM2:=sE (HM1.o.new HC.o kk)
   have HM0:=sE (MSt.refl HM2.o.at_ HM2.o.inv HM2.o.hi)
   have hz2:=kk.size
   have HLo:Sl (∀ b,lv1.ownBlock=some b->b<wr.heap.size):=⟨λ b hb=>(Ad HM1.o.at_.st.row hb).2⟩
   have HNe:Sl (∀ b,wr.heap.size<=b->¬ MarkS mb c mq lv1 b):=⟨λ b hb e=>by
    have h1:=HM1.o.at_.st.mb_lt
    have h2:=HM1.o.at_.st.c_lt
    have h3:=HM1.o.at_.ap.2.2.2
    have h4:=HM1.o.at_.bz
    rcases e with e|e|e|e
    .omega
    .omega
    .omega
    .have:=HLo.o b e;omega⟩
   clear hL kown kk
   go_wp2_with fail
   go_loopw [5,25] (λ _ x25 wk=>∃ (j:Nat) (lv:Value) (S:MS),j<=L/\x25=.int .i64 j/\MSt KF T rs mb c cap base v0 sp sq mp mq H fs I (λ x=>X x\/x=g) w2 lv1 S1 wk lv S/\(∀ k∈(KF g).take j,S.f k=true)) (λ _ x25 _=>L-(intOf x25).toNat)
   case atStart=>exact ⟨0,lv1,S1,Nat.zero_le _,rfl,HM0.o,λ k hk=>by simp at hk⟩
   case round=>
    obtain⟨j,lv,S,hj,rfl,hMk,hAll⟩:=hrel
    have HMk:=sE hMk
    have HAll:=sE hAll
    by_cases hjl:j<L
    .have hjl':(j:Int)<(L:Int):=by omega
     have hxj:(KF g)[j]?=some ((KF g)[j]'(by rw[HL.o];exact hjl)):=List.getElem?_eq_getElem _
     obtain⟨x,hx⟩:∃ x,(KF g)[j]'(by rw[HL.o];exact hjl)=x:=⟨_,rfl⟩
     rw[hx] at hxj
     obtain⟨kb,rfl,hcell⟩:=Cu HOw.o hxj
     have hkb:=(Ad HOw.o (b:=kb) (by simp[Value.ownBlock])).1
     have hmem:=List.mem_of_getElem? hxj
     replace hcell:=hMk.kp.cell hcell (HNe.o kb hkb)
     have HMrk:=sE (hMk.mark HC.o (HC.o.hKT g HTg.o x hmem) (MReach.step HRg.o hmem))
     have HTk:Sl ((KF g).take (j+1)=(KF g).take j++[x]):=⟨by rw[List.take_add_one,hxj];rfl⟩
     clear hMk hAll hx hxj hmem hkb
     go_wp2_with fail
     refine HMrk.o.mono ?_
     rintro e w3 ⟨rfl,lv3,S3,hM3,hf3⟩
     have HM3:=sE hM3
     have HF3:=sE hf3
     clear hM3 hf3
     go_wp2_with fail
     exact⟨⟨j+1,lv3,S3,by omega,by go_num,HMk.o.trans HM3.o,λ k hk=>by
      rw[HTk.o] at hk
      rcases List.mem_append.1 hk with hk|hk
      .exact HM3.o.ext.f k (HAll.o k hk)
      .obtain rfl:k=x:=by simpa using hk
       exact HF3.o⟩,by simp only[intOf];omega⟩
    .obtain rfl:j=L:=by omega
     have HMc:=sE (HMk.o.inv' (Y:=X) (HMk.o.inv.close (λ k hk=>hAll k (by rw[<- HL.o,List.take_length];exact hk))))
     have HPp:=sE (HMc.o.pop HC.o)
     clear hMk hAll hjl
     go_wp2_with fail
     refine HPp.o.mono ?_
     intro e w4 hp
     have hMT:=(HM2.o.trans HMc.o)
     have hmx:=HMc.o.ext.mu
     have hn1:=HMc.o.at_.n_le
     have hn0:=HM2.o.at_.n_le
     have HMT:=sE hMT
     clear hMT
     rcases hp with ⟨g',lv',S',rfl,hM',hf',hs1,hs2⟩|⟨rfl,hs,rfl⟩
     .have HM':=sE hM'
      clear hM'
      go_wp2_with fail
      refine⟨.inl ⟨g',lv',S',rfl,rfl,HMT.o.trans HM'.o,hf'⟩,?_⟩
      rw[HMu.o,muW_at HM'.o.at_,hs2]
      simp[b01]
      omega
     .go_wp2_with fail
      refine⟨.inr ⟨rfl,rfl,lv,S,HMT.o,hs⟩,?_⟩
      rw[HMu.o,muW_at HMc.o.at_]
      simp[b01]
      omega
  .clear HP
   have HM1:=sE hM
   clear hM
   go_wp2_with fail
   go_end0
   exact⟨rfl,lv1,S1,HM1.o,hs⟩

section
variable {KF:Nat->List Nat} {T rs:Nat->Prop} {mb c cap base:Nat} {v0:Value} {sp sq mp mq H:Nat} {fs:Nat->Bool} {I:World->Prop} {X Y:Nat->Prop} {w0 w1 w2:World} {lv0 lv1 lv2:Value} {S0 S1 S2:MS}

def NextSt(KF:Nat->List Nat)(T rs:Nat->Prop)(mb c cap base:Nat)(v0:Value)(sp sq mp mq H:Nat)(fs:Nat->Bool)(I:World->Prop)(p:Nat)(w0:World)(lv0:Value)(S0:MS)(lv:Value)(S:MS)(e:Ending)(w':World):Prop:=
 (∃ g:Nat,e=.returned (.tuple #[g,.bool true])/\p<=g/\g<H/\MSt KF T rs mb c cap base v0 sp sq mp mq H fs I (λ x=>g<=x) w0 lv0 S0 w' lv S/\S.f g=true)\/
  (e=.returned (.tuple #[(0:Int),.bool false])/\MSt KF T rs mb c cap base v0 sp sq mp mq H fs I (λ _=>False) w0 lv0 S0 w' lv S)

theorem MSt.next(C:MCtx KF T rs mb c cap base v0 sp sq mp mq H fs I)(p:Nat)(i:Int)(hi:i=(p:Nat))(h:MSt KF T rs mb c cap base v0 sp sq mp mq H fs I (λ x=>p<=x) w0 lv0 S0 w1 lv1 S1):
  Calls prog 105 #[.pointer (some mp),.int .i64 i] w1 (NextSt KF T rs mb c cap base v0 sp sq mp mq H fs I p w0 lv0 S0 lv1 S1):=by
 subst hi
 refine(Next_at (p:Nat) H mp mq S1.f w1 h.at_.mbits).mono ?_
 rintro e w' ⟨rfl,k⟩
 have hn:=h.new C k
 rw[show ((p:Nat):Int).toNat=p from rfl]
 rcases nextB_spec S1.f H p with ⟨j,h1,h2,h3,h4,h5⟩|⟨h1,h2⟩
 .rw [h1]
  refine .inl ⟨j,rfl,h2,h3,hn.inv' ⟨hn.inv.re,hn.inv.st,hn.inv.ln,hn.inv.fl,λ hf x hx=>?_⟩,h4⟩
  rcases hn.inv.cl hf x hx with e|e|e
  .exact .inl e
  .right
   left
   by_cases hj:j<=x
   .exact hj
   .have:=h5 x e (by omega)
    rw[hx] at this
    cases this
  .exact .inr (.inr e)
 .rw [h1]
  refine .inr ⟨rfl,hn.inv' ⟨hn.inv.re,hn.inv.st,hn.inv.ln,hn.inv.fl,λ hf x hx=>?_⟩⟩
  rcases hn.inv.cl hf x hx with e|e|e
  .exact .inl e
  .have:=h2 x e (C.hT x (hn.inv.re x hx).1)
   rw[hx] at this
   cases this
  .exact .inr (.inr e)

end

def unfull(S:MS):MS:=⟨S.f,false,S.n,S.stk,S.deep⟩

set_option maxRecDepth 20000 in
theorem Again_at{KF:Nat->List Nat}{T rs:Nat->Prop}{mb c cap base:Nat}{v0:Value}{sp sq mp mq H:Nat}{fs:Nat->Bool}{I:World->Prop}{X:Nat->Prop}{lv0:Value}{S0:MS}(C:MCtx KF T rs mb c cap base v0 sp sq mp mq H fs I)(w:World)(h:MarkAt w mb c cap base v0 sp sq mp mq H fs lv0 S0)(hv:MInv KF T rs cap X S0)(hi:I w)(hs0:S0.stk=[]):
  Calls prog 125 #[.pointer (some mb)] w (DrainPost KF T rs mb c cap base v0 sp sq mp mq H fs I (λ _=>False) w lv0 (unfull S0)):=by
 have HC:=sE C
 obtain⟨w1,hw1⟩:∃ w1,w1=w.setCell ⟨mb,6,none⟩ (.bool false):=⟨_,rfl⟩
 have k1:Kp (λ k=>k=mb) w w1:=by rw[hw1];exact (Kr (λ k=>k=mb) w).setCell (λ _=>rfl) _
 have hne:=h.ne
 have M1:MarkAt w1 mb c cap base v0 sp sq mp mq H fs lv0 (unfull S0):=⟨h.st.turn k1 (by rw[hw1];exact set8_6 h.st.blk _),h.sb.keep k1 (λ e=>hne.1 e.symm) (λ e=>hne.2.1 e.symm),h.mbits.keep k1 (λ e=>hne.2.2.1 e.symm) (λ e=>hne.2.2.2.1 e.symm),h.cnt,h.ap,hne,Nat.le_trans h.bz k1.size⟩
 have HM1:Sl (MSt KF T rs mb c cap base v0 sp sq mp mq H fs I (λ x=>0<=x) w lv0 (unfull S0) w1 lv0 (unfull S0)):=⟨M1,⟨hv.re,hv.st,hv.ln,(λ hf=>by cases hf),λ _ x _=>.inr (.inl (Nat.zero_le x))⟩,MExt.refl _,C.hI _ _ hi (k1.mono λ i _ e=>.inl e),λ b hb=>.inl hb,k1.mono λ i _ e=>.inl e⟩
 have HNx:=sE (HM1.o.next C 0 0 rfl)
 have HS0:Sl ((unfull S0).stk=[]):=⟨hs0⟩
 obtain⟨-,-,b2,-,-,-,b6,-⟩:=Cs h.st.blk
 have f6:=Ab h.st.blk 6
 obtain⟨-,-,c2,-,-,-,-,-⟩:=Cs M1.st.blk
 clear C h hv hi hs0 M1 k1 hne
 go_enter func125,ntmps125
 go_wp2_with fail
 rw[<- hw1]
 clear hw1
 go_wp2_with fail
 refine HNx.o.mono ?_
 intro e w2 hp
 have hp':∃ (g:Nat) (b:Bool),e=.returned (.tuple #[g,.bool b]):=by
  rcases hp with ⟨g,rfl,_⟩|⟨rfl,_⟩
  .exact ⟨g,true,rfl⟩
  .exact ⟨0,false,rfl⟩
 obtain⟨g0,b0,rfl⟩:=hp'
 have HP:=sE hp
 clear hp b2 b6 f6 c2
 go_wp2_with fail
 go_loopw [2,3,5] (λ x2 x3 _ wr=>(∃ (g:Nat) (lv:Value) (S:MS),x2=.int .i64 g/\x3=.bool true/\g<H/\MSt KF T rs mb c cap base v0 sp sq mp mq H fs I (λ x=>g<=x) w lv0 (unfull S0) wr lv S/\S.f g=true/\S.stk=[])\/(x2=.int .i64 0/\x3=.bool false/\∃ (lv:Value) (S:MS),MSt KF T rs mb c cap base v0 sp sq mp mq H fs I (λ _=>False) w lv0 (unfull S0) wr lv S/\S.stk=[])) (λ x2 x3 _ _=>b01 x3*(H+1-(intOf x2).toNat))
 case atStart=>
  rcases HP.o with ⟨g,he,-,hg,hM,hf⟩|⟨he,hM⟩
  .injection he with he
   injection he with he
   simp at he
   obtain⟨he1,rfl⟩:=he
   have:g0=g:=by omega
   subst this
   exact .inl ⟨_,lv0,_,rfl,rfl,hg,hM,hf,HS0.o⟩
  .injection he with he
   injection he with he
   simp at he
   obtain⟨he1,rfl⟩:=he
   have:g0=0:=by omega
   subst this
   exact .inr ⟨rfl,rfl,lv0,_,hM,HS0.o⟩
 case round=>
  rcases hrel with ⟨g,lv1,S1,rfl,rfl,hgH,hM,hfg,hstk⟩|⟨rfl,rfl,lv1,S1,hM,hs⟩
  .obtain ⟨hTg,hRg⟩:=hM.inv.re g hfg
   have HM1:=sE hM
   have HKd:=sE (HC.o.hK g hTg wr lv1 S1 hM.hi hM.at_)
   have HTg:=sE hTg
   have HRg:=sE hRg
   have HH6:=sE hM.at_.mbits.FQ
   clear hM hfg hTg hRg HP hstk
   go_wp2_with fail
   refine HKd.o.mono ?_
   rintro e w2 ⟨ka,kn,kc,rfl,kown,kk⟩
   obtain rfl:kn=(KF g).length:=by have:=kown.1;simpa [Az] using this.symm
   obtain⟨L,hL⟩:∃ L,(KF g).length=L:=⟨_,rfl⟩
   have hL6:L<=65536:=by rw[<- hL];exact HC.o.hl g HTg.o
   rw[hL] at kown
   simp only[hL]
   have HL:=sE hL
   have HOw:=sE kown
   have HM2:=sE (HM1.o.new HC.o kk)
   have HM0:=sE (MSt.refl HM2.o.at_ HM2.o.inv HM2.o.hi)
   have hz2:=kk.size
   have HLo:Sl (∀ b,lv1.ownBlock=some b->b<wr.heap.size):=⟨λ b hb=>(Ad HM1.o.at_.st.row hb).2⟩
   have HNe:Sl (∀ b,wr.heap.size<=b->¬ MarkS mb c mq lv1 b):=⟨λ b hb e=>by
    have h1:=HM1.o.at_.st.mb_lt
    have h2:=HM1.o.at_.st.c_lt
    have h3:=HM1.o.at_.ap.2.2.2
    have h4:=HM1.o.at_.bz
    rcases e with e|e|e|e
    .omega
    .omega
    .omega
    .have:=HLo.o b e;omega⟩
   clear hL kown kk
   go_wp2_with fail
   go_loopw [5,32] (λ _ x32 wk=>∃ (j:Nat) (lv:Value) (S:MS),j<=L/\x32=.int .i64 j/\MSt KF T rs mb c cap base v0 sp sq mp mq H fs I (λ x=>g<=x) w2 lv1 S1 wk lv S/\(∀ k∈(KF g).take j,S.f k=true)) (λ _ x32 _=>L-(intOf x32).toNat)
   case atStart=>exact ⟨0,lv1,S1,Nat.zero_le _,rfl,HM0.o,λ k hk=>by simp at hk⟩
   case round=>
    obtain⟨j,lv,S,hj,rfl,hMk,hAll⟩:=hrel
    have HMk:=sE hMk
    have HAll:=sE hAll
    by_cases hjl:j<L
    .have hjl':(j:Int)<(L:Int):=by omega
     have hxj:(KF g)[j]?=some ((KF g)[j]'(by rw[HL.o];exact hjl)):=List.getElem?_eq_getElem _
     obtain⟨x,hx⟩:∃ x,(KF g)[j]'(by rw[HL.o];exact hjl)=x:=⟨_,rfl⟩
     rw[hx] at hxj
     obtain⟨kb,rfl,hcell⟩:=Cu HOw.o hxj
     have hkb:=(Ad HOw.o (b:=kb) (by simp[Value.ownBlock])).1
     have hmem:=List.mem_of_getElem? hxj
     replace hcell:=hMk.kp.cell hcell (HNe.o kb hkb)
     have HMrk:=sE (hMk.mark HC.o (HC.o.hKT g HTg.o x hmem) (MReach.step HRg.o hmem))
     have HTk:Sl ((KF g).take (j+1)=(KF g).take j++[x]):=⟨by rw[List.take_add_one,hxj];rfl⟩
     clear hMk hAll hx hxj hmem hkb
     go_wp2_with fail
     refine HMrk.o.mono ?_
     rintro e w3 ⟨rfl,lv3,S3,hM3,hf3⟩
     have HM3:=sE hM3
     have HF3:=sE hf3
     clear hM3 hf3
     go_wp2_with fail
     exact⟨⟨j+1,lv3,S3,by omega,by go_num,HMk.o.trans HM3.o,λ k hk=>by
      rw[HTk.o] at hk
      rcases List.mem_append.1 hk with hk|hk
      .exact HM3.o.ext.f k (HAll.o k hk)
      .obtain rfl:k=x:=by simpa using hk
       exact HF3.o⟩,by simp only[intOf];omega⟩
    .obtain rfl:j=L:=by omega
     have HMc:Sl (MSt KF T rs mb c cap base v0 sp sq mp mq H fs I (λ x=>g+1<=x) w lv0 (unfull S0) _ lv S):=⟨(HM2.o.trans HMk.o).inv' (MInv.close (g:=g) (HMk.o.inv.mono (λ x (hx:g<=x)=>by
      show g+1<=x\/x=g
      omega)) (λ k hk=>hAll k (by rw[<- HL.o,List.take_length];exact hk)))⟩
     have HDr:=sE (Drain_at HC.o _ HMc.o.at_ HMc.o.inv HMc.o.hi)
     clear hMk hAll hjl
     go_wp2_with fail
     refine HDr.o.mono ?_
     rintro e w4 ⟨rfl,lv4,S4,hM4,hs4⟩
     have hMT:=HMc.o.trans hM4
     have hH6:=HH6.o
     have hwr:IntKind.i64.wrap ((g:Int)+1)=(g:Int)+1:=by rw[IntKind.wrap_i64];omega
     have HNx:=sE (hMT.next HC.o (g+1) ((g:Int)+1) (by omega))
     obtain⟨-,-,c2,-,-,-,-,-⟩:=Cs hMT.at_.st.blk
     have HS4:=sE hs4
     clear hM4 hMT hs4
     go_wp2_with fail
     refine HNx.o.mono ?_
     rintro e w5 (⟨g',rfl,hg1,hg2,hM',hf'⟩|⟨rfl,hM'⟩)
     .have HM':=sE hM'
      clear hM'
      go_wp2_with fail
      refine⟨.inl ⟨g',lv4,S4,rfl,rfl,hg2,HM'.o,hf',HS4.o⟩,?_⟩
      simp[b01,intOf]
      omega
     .go_wp2_with fail
      refine⟨.inr ⟨rfl,rfl,lv4,S4,hM',HS4.o⟩,?_⟩
      simp[b01,intOf]
      omega
  .clear HP
   have HM1:=sE hM
   clear hM
   go_wp2_with fail
   go_end0
   exact⟨rfl,lv1,S1,HM1.o,hs⟩

end

end Go.Proofs.YtfkedlgpgmaemaaGreatDoor
