/-
  Lemmas for the laws, together: SpaceAl, FitA, ArgsA.
-/
import Derived.Test.YtmfajopmppfldaaGreatDoorQan
import Derived.Test.YtmfajopmppfldaaGreatDoorQal
import Derived.Test.YtmfajopmppfldaaGreatDoorQah
import Derived.Test.YtmfajopmppfldaaGreatDoorQai
import Derived.Test.YtmfajopmppfldaaGreatDoorQaa
import Derived.Deep.SlicePairs
import Derived.SizedLaws
set_option linter.unusedVariables false
set_option maxHeartbeats 16000000
namespace Go.Proofs.YtmfajopmppfldaaGreatDoor
open Tryz
section
open Go.RowKit

def alT:List TypR:=[⟨2,0,0⟩]
def alA:List Cel:=[⟨0,3,0,0,8⟩]
def alB:List Cel:=[⟨0,2,0,0,1⟩,⟨1,1,1,3,2⟩,⟨3,3,0,0,5⟩]

attribute [local go_sem ↓] run_eql_cell

end

section
open Go.RowKit
attribute [local go_sem] Oper.semAt_some

theorem STable_at(P:Sp)(W:Nat->Nat)(f:Nat->Bool)(w:World)(h:SpaceAt w P W f):
  Calls prog 15 #[.pointer (some ⟨P.s,0,none⟩)] w λ e w'=>e=.returned (.pointer (some ⟨P.t,0,none⟩))/\w'=w:=by
 obtain⟨c0,c1,c2⟩:=h.head
 clear h
 go_enter func15,ntmps15
 go_wp2
 go_ret
 exact⟨rfl,rfl⟩

end

section
open Go.RowKit
attribute [local go_sem] Oper.semAt_some

end

section
open Go.RowKit
attribute [local go_sem] Oper.semAt_some

end

section
open Go.RowKit
attribute [local go_sem] Oper.semAt_some

end

section
open Go.RowKit
attribute [local go_sem] Oper.semAt_some

end

section
open Go.RowKit

end

section
open Go.RowKit Go.WideShapes Go.ChangeShapes Go.Deep

section
variable {H:Type} {enc:TypeId×Value->H} {P:Program}

theorem spot_none{w:World}{a:Addr}{v:Value}(h:w.cell? (a.add 0)=some v):a.spot=none:=by
 have:=(EW h).1
 simp[Addr.add] at this
 exact this▸rfl

theorem weightsAll_mem{e:TypeId}:∀ {l:List (DataW H)} {d:DataW H},d∈l->∀ n∈d.weights P e,n∈DataW.weightsAll P e l
 |d0::l,d,hd,n,hn=>by
  simp only[DataW.weightsAll,List.mem_append]
  rcases List.mem_cons.1 hd with rfl|h
  .exact .inl hn
  .exact .inr (weightsAll_mem h n hn)

theorem open_ints{w:World}{base:Nat}{sp:Nat->Bool}{held:Bool}{t e:TypeId}{v:Value}{n:Nat}{x:DataW H×List MemPlace}(ht:P.underlying t=some (.slice e))(he:P.underlying e=some (.int .i64))(hC:P.cellsOf e=1)(hB:P.bytesOf e=8)
  (h:DataW.trod enc P w base sp held n t [v]=some x) (hw:∀ n∈x.1.weights P t,n<=reachBytes):∃ len y,BA 1 w v len y/\len<=17592186044416:=by
 rcases open_slice1 ht hC h with ⟨h0,-⟩|⟨a',len',cap',m,n',V,D,Pl,h1,h2,h3,h4,h5,h6,h7⟩
 .injection h0 with h0
  subst h0
  exact⟨0,λ _ _=>0,⟨none,0,rfl,λ i hi=>by omega⟩,by omega⟩
 .injection h1 with h1
  subst h1
  have hlen:len'<=17592186044416:=by
   subst h6
   have:=hw _ (by simp only[DataW.weights,ht];exact List.mem_cons_self)
   rw[hB] at this
   unfold reachBytes at this
   simp only[List.length_map,List.length_range] at this
   omega
  refine⟨len',λ i j=>match w.cell? (a'.add i) with|some (.int _ z)=>z|_=>0,⟨some a',cap',rfl,λ i hi=>?_⟩,hlen⟩
  have him:i<m:=by rw[h5];split <;> omega
  obtain⟨hc,hd⟩:=h7 i him
  obtain⟨z,hz,_,hwf⟩:=DataW.trod_int he hd
  injection hz with hz
  rw[hz] at hc
  have hspot:a'.spot=none:=spot_none (h7 0 (by omega)).1
  have ha':a'=⟨a'.block,a'.off,none⟩:=by cases a';simp at hspot;simp [hspot]
  have hc':=hc
  rw[ha',Addr.add_lit] at hc'
  refine⟨a'.block,a'.off,congrArg some ha',(EW hc').2,λ j hj=>?_⟩
  simp only[hc]
  obtain rfl:j=0:=by omega
  rw[Nat.mul_one,Nat.add_zero]
  exact⟨hc',bounds_i64 hwf⟩

end

def RowsAt(k:Nat)(w:World)(v:Value)(len:Nat)(V:Nat->Nat->Value):Prop:=
 ∃ a cap,v=.slice a len cap/\∀ i,i<len->∃ b o,a=some ⟨b,o,none⟩/\b<w.heap.size/\∀ j,j<k->w.cell? ⟨b,o+(i*k+j),none⟩=some (V i j)

section
variable {H:Type} {enc:TypeId×Value->H} {P:Program}

theorem open_rows{w:World}{base:Nat}{sp:Nat->Bool}{held:Bool}{t e:TypeId}{fs:Array Field}{v:Value}{d:DataW H}{ps:List MemPlace}(ht:P.underlying t=some (.slice e))(he:P.underlying e=some (.struct fs))(hone:oneCellFields P fs=true)(hC:P.cellsOf e=fs.size)
  (hpos:0<fs.size) (hB:8<=P.bytesOf e) (hv:∃ a len cap,v=.slice a len cap) (h:DataW.Trod enc P w base sp held t v d ps) (hw:∀ n∈d.weights P t,n<=reachBytes):
  ∃ len V,RowsAt fs.size w v len V/\len<=17592186044416/\∀ i,i<len->∀ (j:Nat) (f:Field),fs[j]?=some f->∃ n y,DataW.trod enc P w base sp held n f.type [V i j]=some y/\∀ m∈y.1.weights P f.type,m<=reachBytes:=by
 obtain⟨a,len,cap,rfl⟩:=hv
 obtain⟨fuel,h⟩:=h
 have hcs:(Value.slice a len cap).cells.toList=[.slice a len cap]:=rfl
 rw[hcs] at h
 rcases open_slice ht h with ⟨h0,-⟩|⟨a',len',cap',m,n,D,Pl,h1,h2,h3,h4,h5,h6,h7⟩
 .injection h0 with h0
  injection h0 with h0 h1 h2
  subst h0 h1 h2
  exact⟨0,λ _ _=>.bool false,⟨none,0,rfl,λ i hi=>by omega⟩,by omega,λ i hi=>by omega⟩
 .injection h1 with h1
  injection h1 with e1 e2 e3
  subst e1 e2 e3
  have hd:=congrArg Prod.fst h6
  dsimp only at hd
  have hm:len<=m:=by rw[h5];split <;> omega
  have hlen:len<=17592186044416:=by
   rw[hd] at hw
   have:=hw _ (by simp only[DataW.weights,ht];exact List.mem_cons_self)
   unfold reachBytes at this
   simp only[List.length_map,List.length_range] at this
   have h8:(len+(m-len))*8<=(len+(m-len))*P.bytesOf e:=Nat.mul_le_mul_left _ hB
   omega
  have each:∀ i,i<len->∃ cs:List Value,cs.length=fs.size/\(∀ j,j<fs.size->w.cell? ((a'.add (i*fs.size)).add j)=cs[j]?)/\
    ∀ (j:Nat) (f:Field),fs[j]?=some f->∃ u n y,cs[j]?=some u/\DataW.trod enc P w base sp held n f.type [u]=some y/\∀ m∈y.1.weights P f.type,m<=reachBytes:=by
   intro i hi
   obtain⟨cs,hc,hdd⟩:=h7 i (by omega)
   rw[hC] at hc
   obtain⟨_,hcl,hat⟩:=World.cells?_some hc
   obtain⟨ys,n',_,hDi,_,hyl,hf⟩:=DataW.trod_struct he hdd
   refine⟨cs,hcl,hat,λ j f hjf=>?_⟩
   have hj:j<fs.size:=(Array.getElem?_eq_some_iff.1 hjf).1
   obtain⟨ho,hk⟩:=hone_of hone j _ hjf
   have h8:=hf j _ hjf
   rw[ho,hk] at h8
   have hjl:j<cs.length:=by omega
   have hone':(cs.drop j).take 1=[cs[j]]:=by rw[List.drop_eq_getElem_cons hjl];rfl
   rw[hone',List.getElem?_eq_getElem (by omega)] at h8
   refine⟨cs[j],n',_,List.getElem?_eq_getElem hjl,h8,λ k hk=>?_⟩
   refine hw k ?_
   rw[hd]
   simp only[DataW.weights,ht]
   refine List.mem_cons_of_mem _ (List.mem_append_left _ (weightsAll_mem (List.mem_map.2 ⟨i,List.mem_range.2 hi,rfl⟩) k ?_))
   have hDi':=congrArg Prod.fst hDi
   dsimp only at hDi'
   rw[hDi']
   simp only[DataW.weights,he]
   exact DataW.weights_mem_each (j:=j) (t:=f.type) (by simp[hjf]) (by rw[List.getElem?_map,List.getElem?_eq_getElem (by omega)];rfl) k hk
  have pick:∃ q:Nat->List Value,∀ i,i<len->(q i).length=fs.size/\(∀ j,j<fs.size->w.cell? ((a'.add (i*fs.size)).add j)=(q i)[j]?)/\
    ∀ (j:Nat) (f:Field),fs[j]?=some f->∃ u n y,(q i)[j]?=some u/\DataW.trod enc P w base sp held n f.type [u]=some y/\∀ m∈y.1.weights P f.type,m<=reachBytes:=by
   have h2:∀ i,∃ q:List Value,i<len->q.length=fs.size/\(∀ j,j<fs.size->w.cell? ((a'.add (i*fs.size)).add j)=q[j]?)/\
     ∀ (j:Nat) (f:Field),fs[j]?=some f->∃ u n y,q[j]?=some u/\DataW.trod enc P w base sp held n f.type [u]=some y/\∀ m∈y.1.weights P f.type,m<=reachBytes:=by
    intro i
    by_cases hi:i<len
    .obtain ⟨q,hq⟩:=each i hi
     exact⟨q,λ _=>hq⟩
    .exact ⟨[],λ h=>absurd h hi⟩
   exact⟨λ i=>(h2 i).choose,λ i hi=>(h2 i).choose_spec hi⟩
  obtain⟨q,hq⟩:=pick
  refine⟨len,λ i j=>(q i).getD j (.bool false),⟨some a',cap,rfl,λ i hi=>?_⟩,hlen,λ i hi j f hjf=>?_⟩
  .obtain ⟨y0,y1,y2⟩:=hq i hi
   have h00:=(hq 0 (by omega)).2.1 0 hpos
   have hl0:=(hq 0 (by omega)).1
   rw[List.getElem?_eq_getElem (by omega)] at h00
   have hspot:a'.spot=none:=by
    have:=(EW h00).1
    simp[Addr.add] at this
    exact this▸rfl
   have ha':a'=⟨a'.block,a'.off,none⟩:=by cases a';simp at hspot;simp [hspot]
   have hadd:∀ i j,(a'.add (i*fs.size)).add j=⟨a'.block,a'.off+(i*fs.size+j),none⟩:=by
    intro i j
    rw[ha',Addr.add_lit,Addr.add_lit,Nat.add_assoc]
   refine⟨a'.block,a'.off,congrArg some ha',?_,λ j hj=>?_⟩
   .have:=(EW h00).2
    rw[hadd] at this
    exact this
   .have:=y1 j hj
    rw[hadd,List.getElem?_eq_getElem (by omega)] at this
    rw[this]
    simp[y0,hj]
  .obtain ⟨y0,y1,y2⟩:=hq i hi
   obtain⟨u,n,y,hu,hy,hm⟩:=y2 j f hjf
   refine⟨n,y,?_,hm⟩
   simpa [List.getD_eq_getElem?_getD,hu] using hy

end

def DR(w:World)(v:Value)(len:Nat)(d g i n y:Nat->Int)(u:Nat->Value)(m:Nat->Nat):Prop:=
 ∃ a cap,v=.slice a len cap/\∀ j,j<len->∃ b o,a=some ⟨b,o,none⟩/\b<w.heap.size/\
  w.cell? ⟨b,o+j*6,none⟩=some (.int .i64 (d j))/\w.cell? ⟨b,o+j*6+1,none⟩=some (.int .i64 (g j))/\w.cell? ⟨b,o+j*6+2,none⟩=some (.int .i64 (i j))/\w.cell? ⟨b,o+j*6+3,none⟩=some (.int .i64 (n j))/\
  w.cell? ⟨b,o+j*6+4,none⟩=some (.int .u64 (y j))/\w.cell? ⟨b,o+j*6+5,none⟩=some (u j)/\(∃ ua uc,u j=.slice ua (m j) uc)/\m j<=17592186044416/\
  (-9223372036854775808<=g j/\g j<=9223372036854775807)/\(-9223372036854775808<=i j/\i j<=9223372036854775807)/\(-9223372036854775808<=n j/\n j<=9223372036854775807)

def AtsAt(w:World)(len:Nat)(u:Nat->Value)(m:Nat->Nat):Prop:=∀ j,j<len->∃ x,BA 1 w (u j) (m j) x

def intV:Value->Int
 |.int _ z=>z
 |_=>0

def lenV:Value->Nat
 |.slice _ n _=>n
 |_=>0

section
variable {H:Type} {enc:TypeId×Value->H} {P:Program}

theorem open_types7{w:World}{base:Nat}{sp:Nat->Bool}{held:Bool}{t e:TypeId}{f0 f1 f2:Field}{v:Value}{d:DataW H}{ps:List MemPlace}(ht:P.underlying t=some (.slice e))(he:P.underlying e=some (.struct #[f0,f1,f2]))(hone:oneCellFields P #[f0,f1,f2]=true)(hC:P.cellsOf e=3)
  (hB:8<=P.bytesOf e) (h0:P.underlying f0.type=some (.int .u8)) (h1:P.underlying f1.type=some (.int .i64)) (h2:P.underlying f2.type=some (.int .u64)) (hv:∃ a len cap,v=.slice a len cap) (h:DataW.Trod enc P w base sp held t v d ps) (hw:∀ n∈d.weights P t,n<=reachBytes):
  ∃ xs:List TypR,AO w v xs/\xs.length<=17592186044416/\∀ x∈xs,x.m<18446744073709551616:=by
 obtain⟨len,V,⟨a,cap,rfl,hr⟩,hl,hf⟩:=open_rows ht he hone hC (by simp) hB hv h hw
 refine⟨(List.range len).map λ i=>⟨intV (V i 0),intV (V i 1),(intV (V i 2)).toNat⟩,⟨a,cap,by simp,λ i x hx=>?_⟩,by simpa using hl,λ x hx=>?_⟩
 rotate_left
 .obtain ⟨i,hi,rfl⟩:=List.mem_map.1 hx
  have hi:i<len:=by simpa using hi
  obtain⟨n2,y2,g2,-⟩:=hf i hi 2 f2 rfl
  obtain⟨z2,e2,-,w2⟩:=DataW.trod_int h2 g2
  injection e2 with e2
  dsimp only
  rw[e2]
  have b2:=bounds_u64 w2
  show z2.toNat<18446744073709551616
  omega
 have hi:i<len:=by have:=(gE.1 hx).1;simpa using this
 have hx':x=⟨intV (V i 0),intV (V i 1),(intV (V i 2)).toNat⟩:=by simp[hi] at hx;exact hx.symm
 subst hx'
 obtain⟨b,o,rfl,hb,hc⟩:=hr i hi
 obtain⟨n0,y0,g0,-⟩:=hf i hi 0 f0 rfl
 obtain⟨n1,y1,g1,-⟩:=hf i hi 1 f1 rfl
 obtain⟨n2,y2,g2,-⟩:=hf i hi 2 f2 rfl
 obtain⟨z0,e0,-,w0⟩:=DataW.trod_int h0 g0
 obtain⟨z1,e1,-,w1⟩:=DataW.trod_int h1 g1
 obtain⟨z2,e2,-,w2⟩:=DataW.trod_int h2 g2
 injection e0 with e0
 injection e1 with e1
 injection e2 with e2
 have c0:=hc 0 (by simp)
 have c1:=hc 1 (by simp)
 have c2:=hc 2 (by simp)
 rw[e0] at c0 ⊢
 rw[e1] at c1 ⊢
 rw[e2] at c2 ⊢
 have b2:=bounds_u64 w2
 refine⟨b,o,rfl,hb,c0,by rw[Nat.add_assoc];exact c1,?_⟩
 rw[Nat.add_assoc]
 rw[show (((intV (.int .u64 z2)).toNat:Nat):Int)=z2 from Int.toNat_of_nonneg b2.1]
 exact c2

theorem open_steps7{w:World}{base:Nat}{sp:Nat->Bool}{held:Bool}{t e ei:TypeId}{f0 f1 f2 f3 f4 f5:Field}{v:Value}{d:DataW H}{ps:List MemPlace}(ht:P.underlying t=some (.slice e))(he:P.underlying e=some (.struct #[f0,f1,f2,f3,f4,f5]))(hone:oneCellFields P #[f0,f1,f2,f3,f4,f5]=true)(hC:P.cellsOf e=6)
  (hB:8<=P.bytesOf e) (h0:P.underlying f0.type=some (.int .i64)) (h1:P.underlying f1.type=some (.int .i64)) (h2:P.underlying f2.type=some (.int .i64)) (h3:P.underlying f3.type=some (.int .i64)) (h4:P.underlying f4.type=some (.int .u64)) (h5:P.underlying f5.type=some (.slice ei)) (hei:P.underlying ei=some (.int .i64)) (ci:P.cellsOf ei=1) (hBi:P.bytesOf ei=8)
  (hv:∃ a len cap,v=.slice a len cap) (h:DataW.Trod enc P w base sp held t v d ps) (hw:∀ n∈d.weights P t,n<=reachBytes):
  ∃ len dd gg ii nn yy uu mm,DR w v len dd gg ii nn yy uu mm/\len<=17592186044416/\(∀ j,j<len->0<=yy j/\yy j<=18446744073709551615)/\AtsAt w len uu mm:=by
 obtain⟨len,V,⟨a,cap,rfl,hr⟩,hl,hf⟩:=open_rows ht he hone hC (by simp) hB hv h hw
 refine⟨len,λ i=>intV (V i 0),λ i=>intV (V i 1),λ i=>intV (V i 2),λ i=>intV (V i 3),λ i=>intV (V i 4),λ i=>V i 5,λ i=>lenV (V i 5),⟨a,cap,rfl,λ i hi=>?_⟩,hl,λ i hi=>?_,λ i hi=>?_⟩
 rotate_left
 .obtain ⟨n4,y4,g4,-⟩:=hf i hi 4 f4 rfl
  obtain⟨z4,e4,-,w4⟩:=DataW.trod_int h4 g4
  injection e4 with e4
  dsimp only
  rw[e4]
  exact bounds_u64 w4
 .obtain ⟨n5,y5,g5,k5⟩:=hf i hi 5 f5 rfl
  obtain⟨l5,x5,hI,hl5⟩:=open_ints h5 hei ci hBi g5 k5
  have hI':=hI
  obtain⟨ua,uc,hu,-⟩:=hI'
  refine⟨x5,?_⟩
  dsimp only
  rw[show lenV (V i 5)=l5 by rw[hu];rfl]
  exact hI
 obtain⟨b,o,rfl,hb,hc⟩:=hr i hi
 obtain⟨n0,y0,g0,-⟩:=hf i hi 0 f0 rfl
 obtain⟨n1,y1,g1,-⟩:=hf i hi 1 f1 rfl
 obtain⟨n2,y2,g2,-⟩:=hf i hi 2 f2 rfl
 obtain⟨n3,y3,g3,-⟩:=hf i hi 3 f3 rfl
 obtain⟨n4,y4,g4,-⟩:=hf i hi 4 f4 rfl
 obtain⟨n5,y5,g5,k5⟩:=hf i hi 5 f5 rfl
 obtain⟨z0,e0,-,w0⟩:=DataW.trod_int h0 g0
 obtain⟨z1,e1,-,w1⟩:=DataW.trod_int h1 g1
 obtain⟨z2,e2,-,w2⟩:=DataW.trod_int h2 g2
 obtain⟨z3,e3,-,w3⟩:=DataW.trod_int h3 g3
 obtain⟨z4,e4,-,w4⟩:=DataW.trod_int h4 g4
 obtain⟨l5,x5,⟨ua,uc,hu,-⟩,hl5⟩:=open_ints h5 hei ci hBi g5 k5
 injection e0 with e0
 injection e1 with e1
 injection e2 with e2
 injection e3 with e3
 injection e4 with e4
 have c0:=hc 0 (by simp)
 have c1:=hc 1 (by simp)
 have c2:=hc 2 (by simp)
 have c3:=hc 3 (by simp)
 have c4:=hc 4 (by simp)
 have c5:=hc 5 (by simp)
 dsimp only
 rw[e0] at c0 ⊢
 rw[e1] at c1 ⊢
 rw[e2] at c2 ⊢
 rw[e3] at c3 ⊢
 rw[e4] at c4 ⊢
 rw[hu] at c5 ⊢
 have b1:=bounds_i64 w1
 have b2:=bounds_i64 w2
 have b3:=bounds_i64 w3
 exact⟨b,o,rfl,hb,c0,by rw[Nat.add_assoc];exact c1,by rw[Nat.add_assoc];exact c2,by rw[Nat.add_assoc];exact c3,by rw[Nat.add_assoc];exact c4,by rw[Nat.add_assoc];exact c5,⟨ua,uc,rfl⟩,hl5,b1,b2,b3⟩

end

open Go.RowKit

def Heavy9Post(n:Int)(lt len:Nat)(m:Nat->Nat)(w:World)(e:Ending)(w':World):Prop:=
 ∃ t:Bool,e=.returned (.bool t)/\w'=w/\(t=false->(n<=600\/65536<n)/\lt<=70/\len<=60/\∀ i,i<len->m i<=300)

def Heavy9I(len:Nat)(m:Nat->Nat)(w:World)(z y:Value)(wr:World):Prop:=
 ∃ j s:Nat,j<=len/\j<=100/\z=.int .i64 (s:Nat)/\y=.int .i64 (j:Nat)/\s<=j*17592186044416/\Sl (∀ i,i<j->m i<=s)/\wr=w

set_option maxRecDepth 20000 in
theorem Heavy9_any(n:Int)(v1 v2:Value)(xs:List TypR)(len:Nat)(d g i nn y:Nat->Int)(u:Nat->Value)(m:Nat->Nat)(w:World)(h1:AO w v1 xs)(h2:DR w v2 len d g i nn y u m)(hl1:xs.length<=17592186044416)(hl2:len<=17592186044416):
  Calls prog 6 #[.int .i64 n,v1,v2] w (Heavy9Post n xs.length len m w):=by
 have HV:=sE h2
 obtain⟨va,vc,rfl,-⟩:=h2
 obtain⟨ta,tc,rfl,-⟩:=h1
 obtain⟨lt,hlt⟩:∃ lt,xs.length=lt:=⟨_,rfl⟩
 rw[hlt] at hl1 ⊢
 clear hlt
 go_enter func6,ntmps6
 go_wp2_with fail
 go_loopw [7,8] (λ z y wr=>Heavy9I len m w z y wr) (λ _ y _=>100-(intOf y).toNat)
 case atStart=>exact ⟨0,0,Nat.zero_le _,Nat.zero_le _,rfl,rfl,Nat.zero_le _,⟨λ i h=>by omega⟩,rfl⟩
 case round=>
  obtain⟨j,s,hj,hj2,rfl,rfl,hs,hsm,rfl⟩:=hrel
  by_cases hjl:j<len
  .have a1:decide ((j:Int)<(len:Int))=true:=dT (by omega)
   by_cases hj1:j<100
   .have a2:decide ((j:Int)<100)=true:=dT (by omega)
    obtain⟨va',vc',e,hx⟩:=HV.out
    injection e with e1 e3 e2
    subst e1 e2
    obtain⟨b,o,rfl,hbl,x0,x1,x2,x3,x4,x5,⟨ua,uc,hu⟩,hm,-⟩:=hx j hjl
    rw[hu] at x5
    clear hx x0 x1 x2 x3 x4 hu
    go_wp2
    exact⟨⟨j+1,s+m j,by omega,by omega,by go_num,by go_num,by omega,⟨λ i hi=>by
     rcases Nat.lt_or_ge i j with h|h
     .have:=hsm.out i h;omega
     .obtain rfl:i=j:=by omega
      omega⟩,rfl⟩,by simp only[intOf];omega⟩
   .have a2:decide ((j:Int)<100)=false:=dF (by omega)
    by_cases hA:600<n
    .by_cases hB:n<=65536
     .have c1:decide ((600:Int)<n)=true:=dT (by omega)
      have c2:decide (n<=65536)=true:=dT (by omega)
      go_wp2
      go_ret
      exact⟨true,rfl,rfl,λ h=>by cases h⟩
     .by_cases hC:70<lt
      .have c1:decide ((600:Int)<n)=true:=dT (by omega)
       have c2:decide (n<=65536)=false:=dF (by omega)
       have c3:decide ((70:Int)<(lt:Int))=true:=dT (by omega)
       go_wp2
       go_ret
       exact⟨true,rfl,rfl,λ h=>by cases h⟩
      .by_cases hD:60<len
       .have c1:decide ((600:Int)<n)=true:=dT (by omega)
        have c2:decide (n<=65536)=false:=dF (by omega)
        have c3:decide ((70:Int)<(lt:Int))=false:=dF (by omega)
        have c4:decide ((60:Int)<(len:Int))=true:=dT (by omega)
        go_wp2
        go_ret
        exact⟨true,rfl,rfl,λ h=>by cases h⟩
       .by_cases hE:300<s
        .have c1:decide ((600:Int)<n)=true:=dT (by omega)
         have c2:decide (n<=65536)=false:=dF (by omega)
         have c3:decide ((70:Int)<(lt:Int))=false:=dF (by omega)
         have c4:decide ((60:Int)<(len:Int))=false:=dF (by omega)
         have c5:decide ((300:Int)<(s:Int))=true:=dT (by omega)
         go_wp2
         go_ret
         exact⟨true,rfl,rfl,λ h=>by cases h⟩
        .have c1:decide ((600:Int)<n)=true:=dT (by omega)
         have c2:decide (n<=65536)=false:=dF (by omega)
         have c3:decide ((70:Int)<(lt:Int))=false:=dF (by omega)
         have c4:decide ((60:Int)<(len:Int))=false:=dF (by omega)
         have c5:decide ((300:Int)<(s:Int))=false:=dF (by omega)
         go_wp2
         go_ret
         exact⟨false,rfl,rfl,λ _=>⟨by omega,by omega,by omega,λ i hi=>by have:=hsm.out i (by omega);omega⟩⟩
    .by_cases hC:70<lt
     .have c1:decide ((600:Int)<n)=false:=dF (by omega)
      have c3:decide ((70:Int)<(lt:Int))=true:=dT (by omega)
      go_wp2
      go_ret
      exact⟨true,rfl,rfl,λ h=>by cases h⟩
     .by_cases hD:60<len
      .have c1:decide ((600:Int)<n)=false:=dF (by omega)
       have c3:decide ((70:Int)<(lt:Int))=false:=dF (by omega)
       have c4:decide ((60:Int)<(len:Int))=true:=dT (by omega)
       go_wp2
       go_ret
       exact⟨true,rfl,rfl,λ h=>by cases h⟩
      .by_cases hE:300<s
       .have c1:decide ((600:Int)<n)=false:=dF (by omega)
        have c3:decide ((70:Int)<(lt:Int))=false:=dF (by omega)
        have c4:decide ((60:Int)<(len:Int))=false:=dF (by omega)
        have c5:decide ((300:Int)<(s:Int))=true:=dT (by omega)
        go_wp2
        go_ret
        exact⟨true,rfl,rfl,λ h=>by cases h⟩
       .have c1:decide ((600:Int)<n)=false:=dF (by omega)
        have c3:decide ((70:Int)<(lt:Int))=false:=dF (by omega)
        have c4:decide ((60:Int)<(len:Int))=false:=dF (by omega)
        have c5:decide ((300:Int)<(s:Int))=false:=dF (by omega)
        go_wp2
        go_ret
        exact⟨false,rfl,rfl,λ _=>⟨by omega,by omega,by omega,λ i hi=>by have:=hsm.out i (by omega);omega⟩⟩
  .have a1:decide ((j:Int)<(len:Int))=false:=dF (by omega)
   by_cases hA:600<n
   .by_cases hB:n<=65536
    .have c1:decide ((600:Int)<n)=true:=dT (by omega)
     have c2:decide (n<=65536)=true:=dT (by omega)
     go_wp2
     go_ret
     exact⟨true,rfl,rfl,λ h=>by cases h⟩
    .by_cases hC:70<lt
     .have c1:decide ((600:Int)<n)=true:=dT (by omega)
      have c2:decide (n<=65536)=false:=dF (by omega)
      have c3:decide ((70:Int)<(lt:Int))=true:=dT (by omega)
      go_wp2
      go_ret
      exact⟨true,rfl,rfl,λ h=>by cases h⟩
     .by_cases hD:60<len
      .have c1:decide ((600:Int)<n)=true:=dT (by omega)
       have c2:decide (n<=65536)=false:=dF (by omega)
       have c3:decide ((70:Int)<(lt:Int))=false:=dF (by omega)
       have c4:decide ((60:Int)<(len:Int))=true:=dT (by omega)
       go_wp2
       go_ret
       exact⟨true,rfl,rfl,λ h=>by cases h⟩
      .by_cases hE:300<s
       .have c1:decide ((600:Int)<n)=true:=dT (by omega)
        have c2:decide (n<=65536)=false:=dF (by omega)
        have c3:decide ((70:Int)<(lt:Int))=false:=dF (by omega)
        have c4:decide ((60:Int)<(len:Int))=false:=dF (by omega)
        have c5:decide ((300:Int)<(s:Int))=true:=dT (by omega)
        go_wp2
        go_ret
        exact⟨true,rfl,rfl,λ h=>by cases h⟩
       .have c1:decide ((600:Int)<n)=true:=dT (by omega)
        have c2:decide (n<=65536)=false:=dF (by omega)
        have c3:decide ((70:Int)<(lt:Int))=false:=dF (by omega)
        have c4:decide ((60:Int)<(len:Int))=false:=dF (by omega)
        have c5:decide ((300:Int)<(s:Int))=false:=dF (by omega)
        go_wp2
        go_ret
        exact⟨false,rfl,rfl,λ _=>⟨by omega,by omega,by omega,λ i hi=>by have:=hsm.out i (by omega);omega⟩⟩
   .by_cases hC:70<lt
    .have c1:decide ((600:Int)<n)=false:=dF (by omega)
     have c3:decide ((70:Int)<(lt:Int))=true:=dT (by omega)
     go_wp2
     go_ret
     exact⟨true,rfl,rfl,λ h=>by cases h⟩
    .by_cases hD:60<len
     .have c1:decide ((600:Int)<n)=false:=dF (by omega)
      have c3:decide ((70:Int)<(lt:Int))=false:=dF (by omega)
      have c4:decide ((60:Int)<(len:Int))=true:=dT (by omega)
      go_wp2
      go_ret
      exact⟨true,rfl,rfl,λ h=>by cases h⟩
     .by_cases hE:300<s
      .have c1:decide ((600:Int)<n)=false:=dF (by omega)
       have c3:decide ((70:Int)<(lt:Int))=false:=dF (by omega)
       have c4:decide ((60:Int)<(len:Int))=false:=dF (by omega)
       have c5:decide ((300:Int)<(s:Int))=true:=dT (by omega)
       go_wp2
       go_ret
       exact⟨true,rfl,rfl,λ h=>by cases h⟩
      .have c1:decide ((600:Int)<n)=false:=dF (by omega)
       have c3:decide ((70:Int)<(lt:Int))=false:=dF (by omega)
       have c4:decide ((60:Int)<(len:Int))=false:=dF (by omega)
       have c5:decide ((300:Int)<(s:Int))=false:=dF (by omega)
       go_wp2
       go_ret
       exact⟨false,rfl,rfl,λ _=>⟨by omega,by omega,by omega,λ i hi=>by have:=hsm.out i (by omega);omega⟩⟩

end

end Go.Proofs.YtmfajopmppfldaaGreatDoor
