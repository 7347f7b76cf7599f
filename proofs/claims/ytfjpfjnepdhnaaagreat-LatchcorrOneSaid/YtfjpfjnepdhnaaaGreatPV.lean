/- . -/
import Derived.Laws.BitsLemmas
import Derived.Test.YtfjpfjnepdhnaaaGreatQ4
namespace Go.Proofs.YtfjpfjnepdhnaaaGreat
open Go Go.Proofs.YtfjpfjnepdhnaaaGreat.R
open Go.IntKind (wrap)
set_option linter.unusedVariables false
set_option linter.unusedSimpArgs false
section base
variable {α β:Type}
theorem wr{x:Int}(h1 : -9223372036854775808<=x)(h2:x<=9223372036854775807):wrap .i64 x=x:=by rw[LU];omega
theorem wi(i:Nat)(h:(i:Int)+1<=9223372036854775807):wrap .i64 ((i:Int)+1)=((i+1:Nat):Int):=by rw[wr]<;>omega
theorem cd{p:Prop}[Decidable p]{a b:α}:(bif decide p then a else b)=if p then a else b:=by by_cases h:p<;>simp[h]
theorem ce{x y:Int}{a b:α}:(bif (x==y) then a else b)=if x=y then a else b:=by by_cases h:x=y;subst h;simp;rw[ab h,Qu h];rfl
theorem cn{x y:Int}{a b:α}:(bif (x != y) then a else b)=if x=y then b else a:=by by_cases h:x=y;subst h;simp;rw[ab h,bne,Qu h];rfl
theorem iA{c:Bool}{a b:α}:(bif !c then a else b)=bif c then b else a:=by cases c<;>rfl
theorem ct{a b:α}:(bif true then a else b)=a:=rfl
theorem cf{a b:α}:(bif false then a else b)=b:=rfl
theorem gi{l:List α}{i:Nat}:aD l (i:Int)=l[i]?:=by simp[aD]
theorem MS{l:List α}{i:Int}(h:0<=i):aD l i=l[i.toNat]?:=by simp[aD,h]
theorem bu{l:List α}{i:Nat}(h:i<l.length):aD l (i:Int)=some l[i]:=by rw[gi,c6 h]
theorem td{l:Int}(h:0<=l)(h2:l<=9223372036854775807):wrap .i64 (Int.tdiv l 2)=l/2:=by rw[Rr h,wr]<;>omega
theorem tm{l:Int}(h:0<=l):Int.tmod l 2=l%2:=Int.tmod_eq_emod_of_nonneg h
theorem dU{l:List α}(h:l.length<=68719476736):app [] l=some l:=by unfold app mR;rw[aa (by simpa using h)];simp
theorem bH{l m:List α}(h:l.length+m.length<=68719476736):app l m=some (l++m):=by unfold app mR;rw[aa h]
theorem kV{n:Int}{v:α}(h:0<=n)(h2:n<=68719476736):Bm n v=some (List.replicate n.toNat v):=by unfold Bm mR;rw[aa ⟨h,h2⟩]
theorem drop_cons{l:List α}{i:Nat}(h:i<l.length):l.drop i=l[i]::l.drop (i+1):=Qt h
def neg(l:Int):Int:=if l%2=0 then l+1 else l-1
theorem eM{l:Int}(h:0<=l)(h2:l<=9223372036854775806):dj .i64 l 1=neg l:=by
 unfold dj;obtain⟨n,rfl⟩:=N7 h;have hx:((BitVec.ofInt 64 (n:Int))^^^(BitVec.ofInt 64 1)).toNat=n^^^1:=by
  rw[Q4];have h1:(BitVec.ofInt 64 (n:Int)).toNat=n:=by rw[P8];omega
  have h3:(BitVec.ofInt 64 1).toNat=1:=by decide
  rw[h1,h3]
 show wrap .i64 (((BitVec.ofInt 64 (n:Int))^^^(BitVec.ofInt 64 1)).toNat:Int)=_;rw[hx];have hn:((n^^^1:Nat):Int)=neg n:=by
  unfold neg;have h1:(n^^^1)/2=n/2:=by have:=Nat.xor_div_two_pow (a:=n) (b:=1) (n:=1);simpa using this
  have h2:(n^^^1)%2=(n+1)%2:=by
   have:=Nat.xor_mod_two_pow (a:=n) (b:=1) (n:=1);simp only[Nat.pow_one]at this;have h2:n%2=0\/n%2=1:=by omega
   rcases h2 with h|h;rw[this,h];have:(0^^^1%2:Nat)=1:=by decide
   rw[this];omega;rw[this,h];have:(1^^^1%2:Nat)=0:=by decide
   rw[this];omega
  split<;>omega
 rw[hn];exact wr (by unfold neg;split<;>omega) (by unfold neg;split<;>omega)
theorem cq{l:Int}:neg l/2=l/2:=by unfold neg;split<;>omega
theorem neg_neg{l:Int}:neg (neg l)=l:=by unfold neg;split<;>split<;>omega
theorem Ch{l:Int}:neg l≠l:=by unfold neg;split<;>omega
theorem div_eq{a b:Int}(h:a/2=b/2):a=b\/a=neg b:=by unfold neg;split<;>omega
theorem nr{v l:Int}(h:2<=l/\l<=2*v+1):2<=neg l/\neg l<=2*v+1:=by unfold neg;split<;>omega
end base
abbrev isLit(v l:Int):Prop:=2<=l/\l<=2*v+1
abbrev gD(v:Int):Prop:=0<=v/\v<=4000
def kd(v:Int)(c:Li):Prop:=(∀l∈c,isLit v l)/\c.Pairwise (fun a b=>a/2<b/2)
instance (v:Int)(c:Li):Decidable (kd v c):=by unfold kd;infer_instance
def chain(v:Int):Option Int->Li->Bool
 |_,[]=>true
 |p,l::r=>(decide (isLit v l)&&(match p with|none=>true|some q=>decide (q/2<l/2)))&&chain v (some l) r
theorem rB{v:Int}:∀{c:Li} {q:Int},chain v (some q) c=true↔kd v c/\∀l∈c,q/2<l/2
 |[],q=>by simp[chain,kd]
 |l::r,q=>by simp only[chain,eJ,ir,rB (c:=r),kd,xg,eR,Ny];constructor;rintro⟨⟨h1,h2⟩,⟨h3,h4⟩,h5⟩;exact⟨⟨⟨h1,h3⟩,h5,h4⟩,h2,fun x hx=>Int.lt_trans h2 (h5 x hx)⟩;rintro⟨⟨⟨h1,h3⟩,h5,h4⟩,h2,h6⟩;exact⟨⟨h1,h2⟩,⟨h3,h4⟩,h5⟩
theorem rC{v:Int}:∀{c:Li},chain v none c=true↔kd v c
 |[]=>by simp[chain,kd]
 |l::r=>by simp only[chain,JJ,eJ,ir,rB (c:=r),kd,xg,eR,Ny];constructor;rintro⟨h1,⟨h3,h4⟩,h5⟩;exact⟨⟨h1,h3⟩,h5,h4⟩;rintro⟨⟨h1,h3⟩,h5,h4⟩;exact⟨h1,⟨h3,h4⟩,h5⟩
def dx(c:Li)(i:Nat):Option Int:=if i=0 then none else c[i-1]?
theorem iI{c:Li}{i:Nat}(h:i<c.length):dx c (i+1)=some c[i]:=by simp[dx,h]
theorem kf{v l:Int}(hv:gD v)(hl : -9223372036854775808<=l/\l<=9223372036854775807):eE v l=some (decide (isLit v l)):=by rw[eE.eq,cd];split;rename_i h;rw[td (by omega) (by omega)];congr 1;rw[Dr];omega;rename_i h;congr 1;symm;rw[Dv];omega
abbrev in64(l:Int):Prop:=-9223372036854775808<=l/\l<=9223372036854775807
theorem bc.loop{v:Int}(hv:gD v){c:Li}(hn:c.length<=140737488351232)(hr:∀l∈c,in64 l):∀(n i:Nat),i+n=c.length->(∀q,dx c i=some q->isLit v q) ->
  bc.l0 v c c (c.length:Int) (i:Int)=some (bif chain v (dx c i) (c.drop i) then 0 else 8)
 |0,i,hi,hq=>by rw[bc.l0_eq,cd,ab (by omega),lD (by omega)];simp[chain]
 |n+1,i,hi,hq=>by
  have hlt:i<c.length:=by omega
  have hmem:=hr c[i] (dW hlt);rw[bc.l0_eq,cd,aa (by omega),bu hlt,aj,kf hv hmem,aj,iA,cd,drop_cons hlt];simp only[chain];by_cases hl:isLit v c[i];rw[aa hl];have ih:=bc.loop hv hn hr n (i+1) (by omega) (fun q hq'=>by rw[iI hlt]at hq';cases hq';exact hl);rw[iI hlt]at ih;have hw:=wi i (by omega);rw[hw,ih];have hdl:decide (isLit v c[i])=true:=by simpa using hl
  rw[hdl,yj];by_cases h0:i=0;subst h0;rw[cd,ab (by omega)];simp[dx];have hp:i-1<c.length:=by omega
  have hprev:dx c i=some c[i-1]:=by simp[dx,h0,hp]
  have hpl:=hq _ hprev;have hw2:wrap .i64 ((i:Int)-1)=((i-1:Nat):Int):=by rw[wr]<;>omega
  rw[cd,aa (by omega),hw2,bu hp,aj,hprev,cd];by_cases hle:c[i]<=c[i-1];rw[aa hle];have:¬c[i-1]/2<c[i]/2:=by omega
  simp[this];rw[ab hle,aj,td (by omega) (by omega),td (by omega) (by omega),ce];by_cases he:c[i]/2=c[i-1]/2;rw[aa he];have:¬c[i-1]/2<c[i]/2:=by omega
  simp[this];rw[ab he];have:c[i-1]/2<c[i]/2:=by omega
  simp[this];rw[ab hl];simp[hl]
theorem dO{v:Int}{c:Li}(hn:c.length<=140737488351232)(hr:∀l∈c,in64 l):bc v c=some (if gD v then(if kd v c then 0 else 8) else 2):=by
 rw[bc.eq,cd,cd];by_cases h1:v<0;rw[aa h1,ab (by unfold gD;omega)];rw[ab h1];by_cases h2:v>4000;rw[aa h2,ab (by unfold gD;omega)];rw[ab h2,aa (show gD v from⟨by omega,by omega⟩)];have:=bc.loop (v:=v) ⟨by omega,by omega⟩ hn hr c.length 0 (by omega) (by simp[dx]);rw[show((0:Nat):Int)=0 from rfl]at this;rw[this];simp only[dx,sq,jH];by_cases hc:kd v c;rw[rC.2 hc,aa hc];rfl;have:chain v none c=false:=by
  cases hh:chain v none c with
  |false=>rfl
  |true=>exact absurd (rC.1 hh) hc
 rw[this,ab hc];rfl
structure bZ(v:Int)(t s:Li):Prop where
 vars:gD v
 lits:∀l∈t,isLit v l
 dis:t.Pairwise fun a b=>a/2≠b/2
 inc:s.Pairwise (· < ·)
 bnd:∀x∈s,0<=x/\x<(t.length:Int)
instance (v:Int)(t s:Li):Decidable (bZ v t s):=
 decidable_of_iff (gD v/\(∀l∈t,isLit v l)/\t.Pairwise (fun a b=>a/2≠b/2)/\s.Pairwise (· < ·)/\∀x∈s,0<=x/\x<(t.length:Int))
  ⟨fun⟨h1,h2,h3,h4,h5⟩=>⟨h1,h2,h3,h4,h5⟩,fun h=>⟨h.1,h.2,h.3,h.4,h.5⟩⟩
def jV(v:Int):Li->Li->Bool
 |_,[]=>true
 |s,l::r=>(decide (isLit v l)&&decide (∀a∈s,a/2≠l/2))&&jV v (s++[l]) r
theorem rl{v:Int}:∀{r s:Li},jV v s r=true↔(∀l∈r,isLit v l)/\r.Pairwise (fun a b=>a/2≠b/2)/\∀a∈s,∀b∈r,a/2≠b/2
 |[],s=>by simp[jV]
 |l::r,s=>by simp only[jV,eJ,ir,rl (r:=r),xg,eR,Ny,jR,Pe,or_false];constructor;rintro⟨⟨h1,h2⟩,h3,h4,h5⟩;exact⟨⟨h1,h3⟩,⟨fun b hb=>h5 l (.inr rfl) b hb,h4⟩,fun a ha=>⟨h2 a ha,fun b hb=>h5 a (.inl ha) b hb⟩⟩;rintro⟨⟨h1,h3⟩,⟨h6,h4⟩,h5⟩;refine⟨⟨h1,fun a ha=>(h5 a ha).1⟩,h3,h4,fun a ha b hb=>?_⟩;rcases ha with ha|rfl;exact(h5 a ha).2 b hb;exact h6 b hb
def Dz(n:Int):Int->Li->Bool
 |_,[]=>true
 |p,x::r=>decide (p<x/\x<n)&&Dz n x r
theorem yE{n:Int}:∀{r:Li} {p:Int},Dz n p r=true↔r.Pairwise (· < ·)/\∀x∈r,p<x/\x<n
 |[],p=>by simp[Dz]
 |x::r,p=>by simp only[Dz,eJ,ir,yE (r:=r),xg,eR,Ny];constructor;rintro⟨h1,h2,h3⟩;exact⟨⟨fun a ha=>(h3 a ha).1,h2⟩,h1,fun a ha=>⟨Int.lt_trans h1.1 (h3 a ha).1,(h3 a ha).2⟩⟩;rintro⟨⟨h4,h2⟩,h1,h3⟩;exact⟨h1,h2,fun a ha=>⟨h4 a ha,(h3 a ha).2⟩⟩
theorem oh:∀(n:Nat) {l:Li},l.Nodup->(∀x∈l,0<=x/\x<(n:Int))->l.length<=n
 |0,l,hd,h=>by
  cases l with
  |nil=>simp
  |cons x l=>have:=h x (by simp);omega
 |n+1,l,hd,h=>by
  by_cases hm:(n:Int)∈l;have:=oh n (l:=l.erase (n:Int)) (hd.erase _) (fun x hx=>by
   have h1:=h x (List.mem_of_mem_erase hx);have h2:x≠(n:Int):=fun e=>by subst e;exact(List.Nodup.not_mem_erase hd) hx
   omega)
  rw[List.length_erase_of_mem hm]at this;omega;have:=oh n (l:=l) hd (fun x hx=>by
   have h1:=h x hx;have h2:x≠(n:Int):=fun e=>by subst e;exact hm hx
   omega)
  omega
theorem bZ.short{v:Int}{t s:Li}(h:bZ v t s):(t.length:Int)<=v/\s.length<=t.length:=by
 constructor;have h1:(t.map fun l=>l/2-1).Nodup:=by rw[List.Nodup,D1];exact h.dis.imp fun hab he=>hab (by omega)
 have hv:=h.vars;have:=oh v.toNat h1 (fun x hx=>by obtain⟨l,hl,rfl⟩:=jC.1 hx;have:=h.lits l hl;omega)
 rw[pH]at this;omega;have h1:s.Nodup:=h.inc.imp fun hab he=>by omega
 exact oh t.length h1 h.bnd
theorem Fb{v:Int}{t s:Li}:bZ v t s↔gD v/\jV v [] t=true/\Dz (t.length:Int) (-1) s=true:=by rw[rl,yE];constructor;intro h;exact⟨h.vars,⟨h.lits,h.dis,by simp⟩,h.inc,fun x hx=>⟨by have:=(h.bnd x hx).1;omega,(h.bnd x hx).2⟩⟩;rintro⟨h1,⟨h2,h3,_⟩,h4,h5⟩;exact⟨h1,h2,h3,h4,fun x hx=>⟨by have:=(h5 x hx).1;omega,(h5 x hx).2⟩⟩
theorem ki{v l:Int}(hl:in64 l):eG v l=some (decide (isLit v l)):=by rw[eG.eq,cd];split;rename_i h;rw[td (by omega) (by omega)];congr 1;rw[Dr];omega;rename_i h;congr 1;symm;rw[Dv];omega
theorem az.loop1{v:Int}{t s:Li}(hn:s.length<=140737488351232):∀(n i:Nat),i+n=s.length->(∀q,dx s i=some q->0<=q) ->
  az.l1 s (s.length:Int) (i:Int) v t s=some (bif Dz (t.length:Int) ((dx s i).getD (-1)) (s.drop i) then 0 else 8)
 |0,i,hi,hq=>by rw[az.l1_eq,cd,ab (by omega),lD (by omega)];simp[Dz]
 |n+1,i,hi,hq=>by
  have hlt:i<s.length:=by omega
  have hw:=wi i (by omega);rw[az.l1_eq,cd,aa (by omega),bu hlt,aj,drop_cons hlt,hw];simp only[Dz,cd];by_cases h1:s[i]<0;rw[aa h1];have:¬((dx s i).getD (-1)<s[i]/\s[i]<(t.length:Int)):=by
   cases hp:dx s i with
   |none=>simp;omega
   |some q=>have:=hq q hp;simp;omega
  simp[this];rw[ab h1];by_cases h2:s[i]>=(t.length:Int);rw[aa h2];have:¬((dx s i).getD (-1)<s[i]/\s[i]<(t.length:Int)):=by omega
  simp[this];rw[ab h2];have ih:=az.loop1 (v:=v) (t:=t) hn n (i+1) (by omega) (fun q hq'=>by rw[iI hlt]at hq';cases hq';omega);rw[iI hlt]at ih;rw[ih];by_cases h0:i=0;subst h0;rw[ab (by omega)];have:(dx s 0).getD (-1)<s[0]/\s[0]<(t.length:Int):=by simp[dx];omega
  simp[this];have hp:i-1<s.length:=by omega
  have hprev:dx s i=some s[i-1]:=by simp[dx,h0,hp]
  have hw2:wrap .i64 ((i:Int)-1)=((i-1:Nat):Int):=by rw[wr]<;>omega
  rw[aa (by omega),hw2,bu hp,aj,hprev];by_cases h3:s[i]<=s[i-1];rw[aa h3];have:¬(s[i-1]<s[i]/\s[i]<(t.length:Int)):=by omega
  simp[this];rw[ab h3];have:s[i-1]<s[i]/\s[i]<(t.length:Int):=by omega
  simp[this]
theorem az.loop0{v:Int}(hv:gD v){t s:Li}(hn:t.length<=140737488351232)(hs:s.length<=140737488351232)(hr:∀l∈t,in64 l):∀(n i:Nat) (o:Lb),i+n=t.length->(o.length:Int)=v+1 ->
  (∀k:Nat,k<o.length->o[k]?=some (decide (∃a∈t.take i,a/2=(k:Int)))) ->
  az.l0 t (t.length:Int) (i:Int) v t s o=some (bif jV v (t.take i) (t.drop i)&&Dz (t.length:Int) (-1) s then 0 else 8)
 |0,i,o,hi,ho,hk=>by rw[az.l0_eq,cd,ab (by omega),lD (by omega)];have:=az.loop1 (v:=v) (t:=t) hs s.length 0 (by omega) (by simp[dx]);rw[show((0:Nat):Int)=0 from rfl]at this;rw[this];simp[jV,dx]
 |n+1,i,o,hi,ho,hk=>by
  have hlt:i<t.length:=by omega
  have hmem:=hr t[i] (dW hlt);have hw:=wi i (by omega);rw[az.l0_eq,cd,aa (by omega),bu hlt,aj,ki hmem,aj,iA,cd,drop_cons hlt,hw];simp only[jV];by_cases hl:isLit v t[i];rw[aa hl];have hd:wrap .i64 (Int.tdiv t[i] 2)=t[i]/2:=td (by omega) (by omega);obtain⟨k,hkk⟩:∃k:Nat,t[i]/2=(k:Int):=⟨(t[i]/2).toNat,by omega⟩;have hko:k<o.length:=by omega
  have hget:=hk k hko;have hk0:((k:Int)).toNat=k:=by omega
  rw[hd,hkk,hk0,gi,c6 hko,aj];rw[c6 hko]at hget;have hget:=uR hget;simp only[aj];rw[hget,cd];by_cases he:∃a∈t.take i,a/2=(k:Int);rw[aa he];have:¬∀a∈t.take i,a/2≠t[i]/2:=fun hh=>by obtain⟨a,ha,hb⟩:=he;exact hh a ha (by omega)
  rw[hkk]at this;simp only[this,decide_false,Bool.and_false,GH];rfl;rw[ab he];have hdis:∀a∈t.take i,a/2≠(k:Int):=fun a ha hb=>he ⟨a,ha,hb⟩;have htk:t.take (i+1)=t.take i++[t[i]]:=by rw[BP,c6 hlt];rfl
  have ih:=az.loop0 hv hn hs hr n (i+1) (o.set k true) (by omega) (by rw[lY];exact ho) (fun j hj=>by rw[lY]at hj;rw[zH,htk];by_cases hjk:k=j;subst hjk;rw[aa rfl,aa hj];congr 1;symm;rw[NY];exact⟨t[i],jR.2 (.inr (fQ.2 rfl)),hkk⟩;rw[ab hjk,hk j hj];congr 1;rw[Dr];constructor;rintro⟨a,ha,hb⟩;exact⟨a,jR.2 (.inl ha),hb⟩;rintro⟨a,ha,hb⟩;rcases jR.1 ha with ha|ha;exact⟨a,ha,hb⟩;have:a=t[i]:=fQ.1 ha;subst this;omega)
  rw[ih,htk];have h1:decide (isLit v t[i])=true:=by simpa using hl
  have h2:decide (∀a∈t.take i,a/2≠(k:Int))=true:=by simpa using hdis
  rw[h1,h2,yj,yj];rw[ab hl];simp[hl]
theorem cU{v:Int}{t s:Li}(hn:t.length<=140737488351232)(hs:s.length<=140737488351232)(hr:∀l∈t,in64 l):az v t s=some (if bZ v t s then 0 else 8):=by
 rw[az.eq,cd,cd];by_cases h1:v<0;rw[aa h1,ab (fun h=>by have:=h.vars;omega)]
 .rw[ab h1];by_cases h2:v>4000;rw[aa h2,ab (fun h=>by have:=h.vars;omega)]
  .have hw:wrap .i64 (v+1)=v+1:=by rw[wr]<;>omega
   rw[ab h2,hw,kV (by omega) (by omega),aj,aa rfl];have:=az.loop0 (v:=v) ⟨by omega,by omega⟩ hn hs hr t.length 0 (List.replicate (v+1).toNat false) (by omega) (by rw[qz];omega) (fun k hk=>by rw[qz]at hk;rw[Kt,aa hk];simp)
   rw[show((0:Nat):Int)=0 from rfl]at this;rw[this];have hiff:=Fb (v:=v) (t:=t) (s:=s);simp only[JI,jH];by_cases h:bZ v t s;obtain⟨_,e1,e2⟩:=hiff.1 h;rw[aa h,e1,e2];rfl
   .rw[ab h];cases e1:jV v [] t with
    |false=>rfl
    |true=>
     cases e2:Dz (t.length:Int) (-1) s with
     |false=>rfl
     |true=>exact absurd (hiff.2 ⟨⟨by omega,by omega⟩,e1,e2⟩) h
def cH:Li->Int->Int
 |[],_=>2
 |x::r,l=>if x=l then 1 else if x=neg l then 0 else cH r l
theorem dN{t:Li}{l:Int}:cH t l=2↔∀a∈t,a/2≠l/2:=by
 induction t with
 |nil=>simp[cH]
 |cons x t ih=>simp only[cH,eR,Ny];split;rename_i h;subst h;simp;split;rename_i h1 h2;subst h2;simp[cq];rename_i h1 h2;rw[ih];constructor;intro h;exact⟨fun he=>(div_eq he).elim h1 h2,h⟩;intro h;exact h.2
theorem cy{t:Li}(hd:t.Pairwise fun a b=>a/2≠b/2){l:Int}:cH t l=1↔l∈t:=by
 induction t with
 |nil=>simp[cH]
 |cons x t ih=>rw[xg]at hd;simp only[cH,eR];split;rename_i h;simp[h];rename_i h;split;rename_i h2;constructor;intro h;omega;rintro(h3|h3);exact absurd h3.symm h;exact absurd (by rw[h2,cq]) (hd.1 l h3);rw[ih hd.2];constructor;exact .inr;rintro(h3|h3);exact absurd h3.symm h;exact h3
theorem cg{t:Li}(hd:t.Pairwise fun a b=>a/2≠b/2){l:Int}:cH t l=0↔neg l∈t:=by
 induction t with
 |nil=>simp[cH]
 |cons x t ih=>rw[xg]at hd;simp only[cH,eR];split;rename_i h;subst h;constructor;intro h;omega;rintro(h3|h3);exact absurd h3 Ch;exact absurd cq.symm (hd.1 _ h3);rename_i h;split;rename_i h2;simp[h2];rename_i h2;rw[ih hd.2];constructor;exact .inr;rintro(h3|h3);exact absurd h3.symm h2;exact h3
theorem cQ(t:Li)(l:Int):cH t l=0\/cH t l=1\/cH t l=2:=by
 induction t with
 |nil=>simp[cH]
 |cons x t ih=>simp only[cH];split;simp;split;simp;exact ih
theorem xT{t u:Li}{l:Int}:cH (t++u) l=if cH t l=2 then cH u l else cH t l:=by
 induction t with
 |nil=>simp[cH]
 |cons x t ih=>simp only[Kr,cH];split;simp;split;simp;exact ih
theorem Qy{α:Type}{l:List α}{i:Int}(h0:0<=i)(h:i.toNat<l.length):aD l i=some l[i.toNat]:=by rw[MS h0,c6 h]
theorem zK{n:Int}(h:(Lit.int .i64 n).wf=true):in64 n:=by simp only[Lit.wf,IntKind.min,IntKind.max,IntKind.signed,IntKind.bits,eJ,ir]at h;unfold in64;simp at h;omega
def oR(v:Int)(t V:Li):Prop:=V.length=(2*v+2).toNat/\∀l,isLit v l->V[l.toNat]?=some (cH t l)
theorem oR.get{v:Int}{t V:Li}(h:oR v t V){l:Int}(hl:isLit v l):aD V l=some (cH t l):=by rw[MS (by omega)];exact h.2 l hl
theorem oR.push{v:Int}{t V:Li}(h:oR v t V){x:Int}(hx:isLit v x)(hf:cH t x=2):oR v (t++[x]) ((V.set x.toNat 1).set (neg x).toNat 0):=by
 have hnx:=nr hx;refine⟨by rw[lY,lY];exact h.1,fun l hl=>?_⟩;have hlen:=h.1;rw[xT,zH,lY];by_cases h1:(neg x).toNat=l.toNat;have h1':neg x=l:=by omega
 have hl0:cH t l=2:=by rw[dN]at hf ⊢;intro a ha;have:=hf a ha;rw[<-h1',cq];exact this
 rw[aa h1,aa (by omega),hl0,aa rfl];simp only[cH];have hxl:¬x=l:=fun e=>by rw[<-h1']at e;exact Ch e.symm
 rw[ab hxl,aa (by rw[<-h1',neg_neg])];have h1':neg x≠l:=fun e=>h1 (by rw[e]);rw[ab h1,zH];by_cases h2:x.toNat=l.toNat;have h2':x=l:=by omega
 subst h2';rw[aa rfl,aa (by omega),hf,aa rfl];simp[cH];have h2':x≠l:=fun e=>h2 (by rw[e]);rw[ab h2,h.2 l hl];split;rename_i h3;rw[h3];simp only[cH];rw[ab h2',ab (fun e=>h1' (by rw[e,neg_neg]))];rfl
theorem sW{γ:Type}{v:Int}{V:Li}(hv:gD v)(hV:V.length=(2*v+2).toNat){x:Int}(hx:isLit v x){K:Option γ}:
  ((aD V x).bind fun _=>(V[x.toNat]?).bind fun _=>(aD (V.set x.toNat 1) (dj .i64 x 1)).bind fun _=>((V.set x.toNat 1)[(dj .i64 x 1).toNat]?).bind fun _=>K)=K:=by
 have hnx:=nr hx;rw[eM (by omega) (by omega)];have h1:x.toNat<V.length:=by omega
 have h2:(neg x).toNat<(V.set x.toNat 1).length:=by rw[lY];omega
 rw[Qy (by omega) h1,aj,c6 h1,aj,Qy (by omega) h2,aj,c6 h2,aj]
theorem aV.loop0{v:Int}{t s:Li}{N:Nat}(hN:N<=140737488351232):∀(n i:Nat) (o:Li),i+n=N->o.length=N->(∀k,k<i->o[k]?=some 2) ->
  aV.l0 (N:Int) (i:Int) v t s o=aV.l1 t (t.length:Int) 0 (List.replicate N 2)
 |0,i,o,hi,ho,hk=>by
  rw[aV.l0_eq,cd,ab (by omega)];have:o=List.replicate N 2:=LQ fun k=>by rw[Kt];by_cases h:k<N;rw[aa h];exact hk k (by omega);rw[ab h,qA (by omega)]
  rw[this]
 |n+1,i,o,hi,ho,hk=>by
  have hlt:i<o.length:=by omega
  have hw:=wi i (by omega);have h0:((i:Int)).toNat=i:=by omega
  rw[aV.l0_eq,cd,aa (by omega),bu hlt,aj,h0,c6 hlt,aj,hw];refine aV.loop0 hN n (i+1) _ (by omega) (by rw[lY];exact ho) fun k hk'=>?_;rw[zH];by_cases h:i=k;rw[aa h,aa (by omega)];rw[ab h];exact hk k (by omega)
theorem aV.loop1{v:Int}(hv:gD v){t:Li}(hl:∀l∈t,isLit v l)(hd:t.Pairwise fun a b=>a/2≠b/2)(hn:t.length<=140737488351232):∀(n i:Nat) (o:Li),i+n=t.length->oR v (t.take i) o ->
  ∃V,aV.l1 t (t.length:Int) (i:Int) o=some V/\oR v t V
 |0,i,o,hi,ho=>by refine⟨o,?_,?_⟩;rw[aV.l1_eq,cd,ab (by omega)];rw[BQ (by omega)]at ho;exact ho
 |n+1,i,o,hi,ho=>by
  have hlt:i<t.length:=by omega
  have hw:=wi i (by omega);have hx:=hl t[i] (dW hlt);rw[aV.l1_eq,cd,aa (by omega),bu hlt,aj,sW hv ho.1 hx,hw,eM (by omega) (by omega)];have htk:t.take (i+1)=t.take i++[t[i]]:=by rw[BP,c6 hlt];rfl
  refine aV.loop1 hv hl hd hn n (i+1) _ (by omega) ?_;rw[htk];refine ho.push hx (dN.2 fun a ha=>?_);have h2:=hd;rw[<-List.take_append_drop i t,drop_cons hlt,LS]at h2;exact h2.2.2 a ha t[i] (ix ..)
theorem kI{v:Int}{t s:Li}(h:bZ v t s):∃V,aV v t s=some V/\oR v t V:=by
 have hv:=h.vars;have hs:=h.short;have hw:wrap .i64 (wrap .i64 (2*v)+2)=2*v+2:=by rw[wr (x:=2*v) (by omega) (by omega),wr]<;>omega
 rw[aV.eq,hw,kV (by omega) (by omega),aj,aa rfl,qz];rw[show(0:Int)=((0:Nat):Int) from rfl,aV.loop0 (by omega) (2*v+2).toNat 0 _ (by omega) (by rw[qz]) (fun k hk=>by omega)];refine aV.loop1 hv h.lits h.dis (by omega) t.length 0 _ (by omega) ⟨by rw[qz],fun l hl=>?_⟩;rw[Kt,aa (by omega)];simp[cH]
def iF(t c:Li):Int×Int:=
 if c.any (fun l=>decide (cH t l=1)) then(1,0) else
  match c.filter (fun l=>decide (cH t l=2)) with
  |[]=>(0,0)
  |[x]=>(3,x)
  |_=>(2,0)
def Fe(t:Li):Li->Li->Int×Int
 |o,[]=>match o with
  |[]=>(0,0)
  |[x]=>(3,x)
  |_=>(2,0)
 |o,l::r=>if cH t l=1 then(1,0) else if cH t l=2 then Fe t (o++[l]) r else Fe t o r
theorem xP{t:Li}:∀{c o:Li},Fe t o c=if c.any (fun l=>decide (cH t l=1)) then((1,0):Int×Int) else
  match o++c.filter (fun l=>decide (cH t l=2)) with
  |[]=>(0,0)
  |[x]=>(3,x)
  |_=>(2,0)
 |[],o=>by simp[Fe]
 |l::r,o=>by simp only[Fe,NC,NB];by_cases h1:cH t l=1;simp[h1];rw[ab h1];have hd1:decide (cH t l=1)=false:=pd h1;rw[hd1,Ik];by_cases h2:cH t l=2;rw[aa h2,xP (c:=r)];simp[h2];rw[ab h2,xP (c:=r)];simp[h2]
theorem Fc{t c:Li}:Fe t [] c=iF t c:=by rw[xP];rfl
theorem bJ.loop{v:Int}(hv:gD v){t V:Li}(hV:oR v t V){c:Li}(hc:∀l∈c,isLit v l)(hn:c.length<=140737488351232):∀(n i:Nat) (lit:Int) (o:Li),i+n=c.length->o.length<=i->(o.length=1->o=[lit]) ->
  bJ.l0 V lit (o.length:Int) c (c.length:Int) (i:Int)=some (Fe t o (c.drop i))
 |0,i,lit,o,hi,ho,hl=>by
  rw[bJ.l0_eq,cd,ab (by omega),lD (by omega),ce,ce];simp only[Fe]
  match o,hl with
  |[],_=>simp
  |[x],hl=>have:=hl rfl;simp at this;subst this;simp
  |a::b::r,_=>rw[ab (by simp only[pI];omega),ab (by simp only[pI];omega)]
 |n+1,i,lit,o,hi,ho,hl=>by
  have hlt:i<c.length:=by omega
  have hw:=wi i (by omega);have hw2:wrap .i64 ((o.length:Int)+1)=((o++[c[i]]).length:Int):=by rw[ey,gC,wr]<;>omega
  have hx:=hc c[i] (dW hlt);rw[bJ.l0_eq,cd,aa (by omega),bu hlt,aj,hV.get hx,aj,ce,ce,drop_cons hlt,hw,hw2];simp only[Fe];split;rfl;split;refine bJ.loop hv hV hc hn n (i+1) c[i] (o++[c[i]]) (by omega) (by rw[ey,gC];omega) fun h=>?_;have:o=[]:=tS (by rw[ey,gC]at h;omega);rw[this];rfl;exact bJ.loop hv hV hc hn n (i+1) lit o (by omega) (by omega) hl
theorem lZ{v:Int}(hv:gD v){t V:Li}(hV:oR v t V){c:Li}(hc:∀l∈c,isLit v l)(hn:c.length<=140737488351232):bJ V c=some (iF t c):=by rw[bJ.eq,<-Fc];exact bJ.loop hv hV hc hn c.length 0 0 [] (by omega) (by simp) (by simp)
def nI(t:Li):Int->Ll->Int
 |_,[]=>-1
 |i,c::r=>if(iF t c).1=0 then i else nI t (i+1) r
def rQ(t:Li):Ll->Int
 |[]=>0
 |c::r=>if(iF t c).1=3 then(iF t c).2 else rQ t r
theorem mX{t c:Li}(h:(iF t c).1=3):(iF t c).2∈c/\cH t (iF t c).2=2:=by
 unfold iF at h ⊢;split;rename_i h1;rw[aa h1]at h;simp at h;rename_i h1;rw[ab h1]at h;split at h;simp at h;rename_i x hx;have:x∈c.filter (fun l=>decide (cH t l=2)):=by rw[hx];simp
 rw[p6]at this;exact⟨this.1,uW this.2⟩;simp at h
theorem ck.loop{v:Int}(hv:gD v){t V:Li}(hV:oR v t V){L:Ll}(hL:∀c∈L,(∀l∈c,isLit v l)/\c.length<=140737488351232)(hn:L.length<=140737488351232):∀(n i:Nat) (lit:Int),i+n=L.length ->
  ck.l0 V lit L (L.length:Int) (i:Int)=some (if 0<=nI t (i:Int) (L.drop i) then(nI t (i:Int) (L.drop i),0) else(-1,if lit=0 then rQ t (L.drop i) else lit))
 |0,i,lit,hi=>by
  rw[ck.l0_eq,cd,ab (by omega),lD (by omega)];have h1:¬0<=nI t (i:Int) []:=by show ¬(0:Int) <= -1;decide
  rw[ab h1];by_cases hl:lit=0;rw[aa hl,hl];rfl;rw[ab hl]
 |n+1,i,lit,hi=>by
  have hlt:i<L.length:=by omega
  have hw:=wi i (by omega);obtain⟨hc1,hc2⟩:=hL L[i] (dW hlt);have hcast:((i+1:Nat):Int)=(i:Int)+1:=by omega
  rw[ck.l0_eq,cd,aa (by omega),bu hlt,aj,lZ hv hV hc1 hc2,aj,ce,ce,ce,drop_cons hlt,hw];have ih:=fun lit=>ck.loop hv hV hL hn n (i+1) lit (by omega);rw[hcast]at ih ⊢;simp only[nI,rQ];by_cases h0:(iF t L[i]).1=0;have hi0:(0:Int)<=(i:Int):=by omega
  simp only[aa h0,aa hi0];simp only[ab h0];by_cases h3:(iF t L[i]).1=3;simp only[aa h3];have hx2:=hc1 _ (mX h3).1;by_cases hl:lit=0;rw[aa hl,aa hl,ih];simp only[ab (show ¬(iF t L[i]).2=0 by omega)];rw[ab hl,ab hl,ih];simp only[ab hl];simp only[ab h3];rw[ih]
theorem tV{v:Int}(hv:gD v){t V:Li}(hV:oR v t V){L:Ll}(hL:∀c∈L,(∀l∈c,isLit v l)/\c.length<=140737488351232)(hn:L.length<=140737488351232):
  ck V L=some (if 0<=nI t 0 L then(nI t 0 L,0) else(-1,rQ t L)):=by
 rw[ck.eq];have:=ck.loop hv hV hL hn L.length 0 0 (by omega);rw[show((0:Nat):Int)=0 from rfl]at this;rw[this];simp
theorem oG(t:Li):∀(L:Ll) (i:Int),nI t i L = -1\/(i<=nI t i L/\nI t i L<i+L.length)
 |[],i=>by simp[nI]
 |c::r,i=>by simp only[nI];split;right;simp;omega;rcases oG t r (i+1) with h|h;exact .inl h;right;simp only[pI];omega
def af(L:Ll):Nat->Li->Li×Int
 |0,t=>(t,-1)
 |n+1,t=>if 0<=nI t 0 L\/rQ t L=0 then(t,nI t 0 L) else af L n (t++[rQ t L])
def dM(v:Int)(L:Ll):Prop:=∀c∈L,kd v c
instance (v:Int)(L:Ll):Decidable (dM v L):=by unfold dM;infer_instance
theorem kd.len{v:Int}(hv:gD v){c:Li}(h:kd v c):c.length<=4000:=by
 have h1:(c.map fun l=>l/2-1).Nodup:=by rw[List.Nodup,D1];exact h.2.imp fun hab he=>by omega
 have:=oh v.toNat h1 (fun x hx=>by obtain⟨l,hl,rfl⟩:=jC.1 hx;have:=h.1 l hl;omega)
 rw[pH]at this;omega
theorem nC{t:Li}:∀{L:Ll},rQ t L≠0->∃c∈L,iF t c=(3,rQ t L)
 |[],h=>by simp[rQ]at h
 |c::r,h=>by simp only[rQ]at h ⊢;split;rename_i h3;exact⟨c,by simp,by rw[<-h3]⟩;rename_i h3;rw[ab h3]at h;obtain⟨d,hd,he⟩:=nC h;exact⟨d,by simp[hd],he⟩
theorem bZ.push{v:Int}{t s:Li}(h:bZ v t s){x:Int}(hx:isLit v x)(hf:cH t x=2):bZ v (t++[x]) s where
 vars:=h.vars
 lits:=fun l hl=>by rcases jR.1 hl with hl|hl;exact h.lits l hl;have:=fQ.1 hl;subst this;exact hx
 dis:=by rw[LS];refine⟨h.dis,by simp,fun a ha b hb=>?_⟩;have:=fQ.1 hb;subst this;exact dN.1 hf a ha
 inc:=h.inc
 bnd:=fun y hy=>by have:=h.bnd y hy;simp only[ey];omega
theorem nD{v:Int}{t:Li}{L:Ll}(hL:dM v L)(h:rQ t L≠0):isLit v (rQ t L)/\cH t (rQ t L)=2:=by obtain⟨c,hc,he⟩:=nC h;have:=mX (t:=t) (c:=c) (by rw[he]);rw[he]at this;exact⟨(hL c hc).1 _ this.1,this.2⟩
theorem bD.loop1{v:Int}{L:Ll}(hL:dM v L)(hn:L.length<=140737488351232){x3 x4:Li}:∀(n:Nat) {t s V:Li} {b:Int},bZ v t s->oR v t V->v-t.length<n ->
  bD.l1 L b v V x3 x4 t s=some ((v,(af L n t).1,s),(af L n t).2,0)
 |0,t,s,V,_,h,hV,hlt=>by have:=h.short;omega
 |n+1,t,s,V,_,h,hV,hlt=>by
  have hv:=h.vars;have hL':∀c∈L,(∀l∈c,isLit v l)/\c.length<=140737488351232:=fun c hc=>⟨(hL c hc).1,by have:=(hL c hc).len hv;omega⟩;rw[bD.l1_eq,tV hv hV hL' hn,aj,cd,ce];simp only[af];by_cases h0:0<=nI t 0 L
  .simp only[aa h0];rw[aa (by omega)]
   try simp only[h0,true_or,sq]
  simp only[ab h0];have hff:nI t 0 L = -1:=by have:=oG t L 0;omega
  rw[ab (by omega)];by_cases hz:rQ t L=0;rw[aa hz,aa (.inr hz),hff];obtain⟨hx,hf⟩:=nD hL hz;have hsh:=h.short;rw[ab hz,ab (fun h=>h.elim h0 hz),sW hv hV.1 hx,bH (by simp;omega),aj,eM (by omega) (by omega)];exact bD.loop1 hL hn n (h.push hx hf) (hV.push hx hf) (by simp only[ey];simp;omega)
theorem bD.loop0{v:Int}{t s:Li}(h:bZ v t s){L:Ll}(hn:L.length<=140737488351232)(hr:∀c∈L,c.length<=140737488351232/\∀l∈c,in64 l):∀(n i:Nat),i+n=L.length->(∀c∈L.take i,kd v c) ->
  bD.l0 L L (L.length:Int) (i:Int) v t s 0 [] []=some (if dM v L then((v,(af L (v+1).toNat t).1,s),(af L (v+1).toNat t).2,0) else((0,[],[]),0,8))
 |0,i,hi,hp=>by have hL:dM v L:=fun c hc=>hp c (by rw[BQ (by omega)];exact hc);have hsh:=h.short;have hv:=h.vars;obtain⟨V,h1,h2⟩:=kI h;rw[bD.l0_eq,cd,ab (by omega),dU (by omega),aj,dU (by omega),aj,h1,aj,aa hL];exact bD.loop1 hL hn (v+1).toNat h h2 (by omega)
 |n+1,i,hi,hp=>by
  have hlt:i<L.length:=by omega
  have hw:=wi i (by omega);obtain⟨hc1,hc2⟩:=hr L[i] (dW hlt);rw[bD.l0_eq,cd,aa (by omega),bu hlt,aj,dO hc1 hc2,aj,aa h.vars,cn,hw];by_cases hc:kd v L[i];rw[aa hc,aa rfl];refine bD.loop0 h hn hr n (i+1) (by omega) fun c hcm=>?_;rw[BP,c6 hlt]at hcm;rcases jR.1 hcm with hcm|hcm;exact hp c hcm;have:c=L[i]:=by simpa using hcm
  subst this;exact hc;rw[ab hc,ab (by omega),ab (fun hL=>hc (hL _ (dW hlt)))]
def pG(v:Int)(t s:Li)(L:Ll):(Int×Li×Li)×Int×Int:=
 if bZ v t s then
  if L.length>20000 then((0,[],[]),0,4) else
  if dM v L then((v,(af L (v+1).toNat t).1,s),(af L (v+1).toNat t).2,0) else((0,[],[]),0,8)
 else((0,[],[]),0,8)
theorem gp{v:Int}{t s:Li}{L:Ll}(ht:t.length<=140737488351232)(hs:s.length<=140737488351232)(htr:∀l∈t,in64 l)(hn:L.length<=140737488351232)(hr:∀c∈L,c.length<=140737488351232/\∀l∈c,in64 l):
  bD v t s L=some (pG v t s L):=by
 rw[bD.eq,cU ht hs htr,aj,cn,cd];unfold pG;by_cases h:bZ v t s;rw[aa h,aa rfl,aa h];by_cases hl:L.length>20000;rw[aa (by omega),aa hl];rw[ab (by omega),ab hl];exact bD.loop0 h hn hr L.length 0 (by omega) (by simp);rw[ab h,ab (by omega),ab h]
def kJ(v:Int)(t s c:Li):Int×Int×Int:=
 if bZ v t s then(if kd v c then((iF t c).1,(iF t c).2,0) else(0,0,8)) else(0,0,8)
theorem sh{v:Int}{t s c:Li}(ht:t.length<=140737488351232)(hs:s.length<=140737488351232)(htr:∀l∈t,in64 l)(hc:c.length<=140737488351232)(hcr:∀l∈c,in64 l):gU v t s c=some (kJ v t s c):=by rw[gU.eq,cU ht hs htr,aj,cn,dO hc hcr,aj,cn];unfold kJ;by_cases h:bZ v t s;rw[aa h,aa rfl,aa h,aa h.vars];by_cases hk:kd v c;obtain⟨V,h1,h2⟩:=kI h;rw[aa hk,aa rfl,aa hk,h1,aj,lZ h.vars h2 hk.1 hc,aj];rw[ab hk,ab (by omega),ab hk];rw[ab h,ab (by omega),ab h]
abbrev TL:Ty:=.list (.int .i64)
theorem MB{l:Li}(h:Cd TL l):l.length<=140737488351232/\∀x∈l,in64 x:=⟨h.1,fun x hx=>zK (h.2 x hx)⟩
theorem dg{v:Int}{s:Li}{L:Ll}(hL:dM v L):∀(n:Nat) {t:Li},bZ v t s->bZ v (af L n t).1 s/\∃u,(af L n t).1=t++u
 |0,t,h=>⟨h,[],by simp[af]⟩
 |n+1,t,h=>by simp only[af];split;exact⟨h,[],by simp⟩;rename_i hc;rw[not_or]at hc;obtain⟨hx,hf⟩:=nD hL hc.2;obtain⟨h1,u,h2⟩:=dg hL n (h.push hx hf);exact⟨h1,rQ t L::u,by rw[h2,Dw];rfl⟩
theorem s9{v:Int}{s:Li}{L:Ll}(hL:dM v L):∀(n:Nat) {t:Li},bZ v t s->v-t.length<n->(af L n t).2=nI (af L n t).1 0 L/\(0<=(af L n t).2\/rQ (af L n t).1 L=0)
 |0,t,h,hlt=>by have:=h.short;omega
 |n+1,t,h,hlt=>by simp only[af];split;rename_i hc;exact⟨rfl,hc⟩;rename_i hc;rw[not_or]at hc;obtain⟨hx,hf⟩:=nD hL hc.2;exact s9 hL n (h.push hx hf) (by rw[ey,gC];omega)
theorem nH{t:Li}:∀{L:Ll} {k:Int} (i:Nat) (hi:i<L.length),(k+i<nI t k L->(iF t L[i]).1≠0)/\(k+i=nI t k L->0<=k->(iF t L[i]).1=0)/\(nI t k L = -1->0<=k->(iF t L[i]).1≠0)
 |[],k,i,hi=>by simp at hi
 |c::r,k,0,hi=>by simp only[nI,List.getElem_cons_zero];split;rename_i h;exact⟨fun h'=>by omega,fun _ _=>h,fun h' hk=>by omega⟩;rename_i h;refine⟨fun _=>h,fun h' hk=>?_,fun _ _=>h⟩;rcases oG t r (k+1) with h1|h1<;>omega
 |c::r,k,i+1,hi=>by simp only[nI,OL];split;rename_i h;exact⟨fun h'=>by omega,fun h' _=>by omega,fun h' hk=>by omega⟩;rename_i h;obtain⟨h1,h2,h3⟩:=nH (t:=t) (L:=r) (k:=k+1) i (by simpa using hi);exact⟨fun h'=>h1 (by omega),fun h' hk=>h2 (by omega) (by omega),fun h' hk=>h3 h' (by omega)⟩
theorem vT{t:Li}:∀{L:Ll},(∀c∈L,∀l∈c,l≠0)->rQ t L=0->∀c∈L,(iF t c).1≠3
 |[],_,_,c,hc=>by cases hc
 |d::r,hz,h,c,hc=>by simp only[rQ]at h;split at h;rename_i h3;exact absurd h (hz d (by simp) _ (mX h3).1);rename_i h3;rcases eR.1 hc with rfl|hc;exact h3;exact vT (fun c hc=>hz c (by simp[hc])) h c hc
theorem EV{v:Int}{t s:Li}{L:Ll}(h:bZ v t s)(hL:dM v L)(hl:L.length<=20000):pG v t s L=((v,(af L (v+1).toNat t).1,s),(af L (v+1).toNat t).2,0):=by unfold pG;rw[aa h,ab (by omega),aa hL]
theorem jr{v l:Int}(hv:gD v)(h:isLit v l):in64 l:=by unfold in64;omega
def cO(W:Lb)(l:Int):Bool:=if l%2=1 then !(W.getD (l/2-1).toNat false) else W.getD (l/2-1).toNat false
theorem lG{W:Lb}{l:Int}(h:2<=l):cO W (neg l) = !cO W l:=by unfold cO;rw[cq];unfold neg;by_cases h2:l%2=0;rw[aa h2,aa (show(l+1)%2=1 by omega),ab (show ¬l%2=1 by omega)];rw[ab h2,ab (show ¬(l-1)%2=1 by omega),aa (show l%2=1 by omega)];simp
theorem gq{t c:Li}:(iF t c).1=0↔∀l∈c,cH t l=0:=by
 unfold iF;constructor;intro h;split at h;simp at h;rename_i h1;split at h;rename_i h2;intro l hl;have h3:¬cH t l=1:=fun e=>h1 (nh.2 ⟨l,hl,kp e⟩);have h4:¬cH t l=2:=fun e=>by have:l∈c.filter (fun l=>decide (cH t l=2)):=p6.2 ⟨hl,kp e⟩;rw[h2]at this;cases this
 rcases cQ t l with h|h|h<;>omega;simp at h;simp at h;intro h;have h1:¬(c.any (fun l=>decide (cH t l=1))=true):=by rw[nh];rintro⟨l,hl,he⟩;have:=h l hl;have:=uW he;omega
 have h2:c.filter (fun l=>decide (cH t l=2))=[]:=by rw[ND];intro l hl he;have:=h l hl;have:=uW he;omega
 rw[ab h1,h2]
theorem EP{t c:Li}:(iF t c).1=1↔∃l∈c,cH t l=1:=by unfold iF;constructor;intro h;split at h;rename_i h1;obtain⟨l,hl,he⟩:=nh.1 h1;exact⟨l,hl,uW he⟩;split at h<;>simp at h;rintro⟨l,hl,he⟩;rw[aa (nh.2 ⟨l,hl,kp he⟩)]
theorem n9{t c:Li}(h:(iF t c).1=3):(iF t c).2∈c/\cH t (iF t c).2=2/\∀l∈c,l≠(iF t c).2->cH t l=0:=by
 obtain⟨h1,h2⟩:=mX h;refine⟨h1,h2,fun l hl hne=>?_⟩;unfold iF at h hne;split at h;simp at h;rename_i h3;rw[ab h3]at hne;have h4:¬cH t l=1:=fun e=>h3 (nh.2 ⟨l,hl,kp e⟩);split at h;simp at h;rename_i x hx;rw[hx]at hne;have h5:¬cH t l=2:=fun e=>by have:l∈c.filter (fun l=>decide (cH t l=2)):=p6.2 ⟨hl,kp e⟩;rw[hx]at this;exact hne (fQ.1 this)
 rcases cQ t l with h|h|h<;>omega;simp at h
theorem kd.nodup{v:Int}{c:Li}(h:kd v c):c.Nodup:=h.2.imp fun hab e=>by rw[e]at hab;omega
theorem jM{v:Int}{t c:Li}(hc:kd v c){x:Int}(hx:x∈c)(h2:cH t x=2)(h0:∀l∈c,l≠x->cH t l=0):iF t c=(3,x):=by
 unfold iF;have h1:¬(c.any (fun l=>decide (cH t l=1))=true):=by rw[nh];rintro⟨l,hl,he⟩;have he:=uW he;by_cases hlx:l=x;subst hlx;omega;have:=h0 l hl hlx;omega
 have hf:c.filter (fun l=>decide (cH t l=2))=[x]:=by
  have hnd:(c.filter (fun l=>decide (cH t l=2))).Nodup:=hc.nodup.filter _;have hmem:∀l,l∈c.filter (fun l=>decide (cH t l=2))↔l=x:=by intro l;rw[p6,NY];constructor;rintro⟨h1,h3⟩;apply og;intro hne;have:=h0 l h1 hne;omega;rintro rfl;exact⟨hx,h2⟩
  cases hl:c.filter (fun l=>decide (cH t l=2)) with
  |nil=>have:=(hmem x).2 rfl;rw[hl]at this;cases this
  |cons a r=>
   rw[hl]at hmem hnd;have ha:a=x:=(hmem a).1 (by simp);cases r with
   |nil=>rw[ha]
   |cons b r=>have hb:b=x:=(hmem b).1 (by simp);rw[ha,hb]at hnd;simp at hnd
 rw[ab h1,hf]
theorem pe{v:Int}{s:Li}{L:Ll}(hL:dM v L){W:Lb}(hm:∀c∈L,c.any (cO W)=true):∀(n:Nat) {t:Li},bZ v t s->(∀l∈t,cO W l=true)->(af L n t).2<0/\∀l∈(af L n t).1,cO W l=true
 |0,t,h,ht=>⟨by simp[af],ht⟩
 |n+1,t,h,ht=>by
  have hfalse:∀l,2<=l->cH t l=0->cO W l=false:=fun l h2 h0=>by have:=ht _ ((cg h.dis).1 h0);rw[lG h2]at this;simpa using this
  have hff:nI t 0 L<0:=by
   rcases oG t L 0 with h1|h1;omega;exfalso;obtain⟨i,hi⟩:∃i:Nat,nI t 0 L=(i:Int):=⟨(nI t 0 L).toNat,by omega⟩;have hlt:i<L.length:=by omega
   have h0:=(nH (t:=t) (L:=L) (k:=0) i hlt).2.1 (by omega) (by omega);have hc:=hL _ (dW hlt);obtain⟨l,hl,hlt2⟩:=nh.1 (hm _ (dW hlt));rw[hfalse l (hc.1 l hl).1 (gq.1 h0 l hl)]at hlt2;cases hlt2
  simp only[af];split;exact⟨hff,ht⟩;rename_i hc;rw[not_or]at hc;obtain⟨hx,hf⟩:=nD hL hc.2;refine pe hL hm n (h.push hx hf) fun l hl=>?_;rcases jR.1 hl with hl|hl;exact ht l hl;have hlx:=fQ.1 hl;subst hlx;obtain⟨c,hcm,he⟩:=nC hc.2;obtain⟨g1,g2,g3⟩:=n9 (t:=t) (c:=c) (by rw[he]);rw[he]at g1 g2 g3;obtain⟨l,hl,hlt⟩:=nh.1 (hm c hcm);by_cases hlx:l=rQ t L;rw[hlx]at hlt;exact hlt;rw[hfalse l ((hL c hcm).1 l hl).1 (g3 l hl hlx)]at hlt;cases hlt
theorem uw{v:Int}{t Y s s':Li}(h:bZ v t s)(hY:bZ v Y s')(hs:∀l∈t,l∈Y){l:Int}:(cH t l=0->cH Y l=0)/\(cH t l=1->cH Y l=1):=
 ⟨fun h0=>(cg hY.dis).2 (hs _ ((cg h.dis).1 h0)),fun h1=>(cy hY.dis).2 (hs _ ((cy h.dis).1 h1))⟩
theorem kT{v:Int}{s s':Li}{L:Ll}(hL:dM v L){Y:Li}(hY:bZ v Y s')(hcl:∀c∈L,(iF Y c).1≠0/\(iF Y c).1≠3):∀(n:Nat) {t:Li},bZ v t s->(∀l∈t,l∈Y)->(af L n t).2<0/\∀l∈(af L n t).1,l∈Y
 |0,t,h,ht=>⟨by simp[af],ht⟩
 |n+1,t,h,ht=>by
  have hff:nI t 0 L<0:=by
   rcases oG t L 0 with h1|h1;omega;exfalso;obtain⟨i,hi⟩:∃i:Nat,nI t 0 L=(i:Int):=⟨(nI t 0 L).toNat,by omega⟩;have hlt:i<L.length:=by omega
   have h0:=(nH (t:=t) (L:=L) (k:=0) i hlt).2.1 (by omega) (by omega);exact(hcl _ (dW hlt)).1 (gq.2 fun l hl=>(uw h hY ht).1 (gq.1 h0 l hl))
  simp only[af];split;exact⟨hff,ht⟩;rename_i hc;rw[not_or]at hc;obtain⟨hx,hf⟩:=nD hL hc.2;refine kT hL hY hcl n (h.push hx hf) fun l hl=>?_;rcases jR.1 hl with hl|hl;exact ht l hl;have hlx:=fQ.1 hl;subst hlx;obtain⟨c,hcm,he⟩:=nC hc.2;obtain⟨g1,g2,g3⟩:=n9 (t:=t) (c:=c) (by rw[he]);rw[he]at g1 g2 g3;have g3':∀l∈c,l≠rQ t L->cH Y l=0:=fun l hl hne=>(uw h hY ht).1 (g3 l hl hne);rcases cQ Y (rQ t L) with h0|h1|h2;exact absurd (gq.2 fun l hl=>by by_cases hlx:l=rQ t L;rw[hlx];exact h0;exact g3' l hl hlx) (hcl c hcm).1
  exact(cy hY.dis).1 h1;exact absurd (by rw[jM (hL c hcm) g1 h2 g3']) (hcl c hcm).2
theorem eZ{v:Int}{s:Li}{L:Ll}(hL:dM v L){t:Li}(h:bZ v t s)(hat:(af L (v+1).toNat t).2<0):∀c∈L,(iF (af L (v+1).toNat t).1 c).1≠0/\(iF (af L (v+1).toNat t).1 c).1≠3:=by
 obtain⟨h1,h2⟩:=s9 hL (v+1).toNat h (by have:=h.vars;omega);have hff:nI (af L (v+1).toNat t).1 0 L = -1:=by have:=oG (af L (v+1).toNat t).1 L 0;omega
 intro c hc;obtain⟨i,hi,rfl⟩:=Dj hc;exact⟨(nH (L:=L) (k:=0) i hi).2.2 hff (by omega),vT (fun c hc l hl=>by have:=(hL c hc).1 l hl;omega) (h2.resolve_left (by omega)) _ (dW hi)⟩
theorem l7:∀{a b:Li},a.Pairwise (· < ·)->b.Pairwise (· < ·)->(∀y,y∈a↔y∈b)->a=b
 |[],[],_,_,_=>rfl
 |[],y::b,_,_,h=>by have:=(h y).2 (by simp);cases this
 |x::a,[],_,_,h=>by have:=(h x).1 (by simp);cases this
 |x::a,y::b,ha,hb,h=>by
  rw[xg]at ha hb;have hxy:x=y:=by have h1:=(h x).1 (by simp);have h2:=(h y).2 (by simp);rcases eR.1 h1 with h1|h1;exact h1;rcases eR.1 h2 with h2|h2;exact h2.symm;have:=ha.1 y h2;have:=hb.1 x h1;omega
  subst hxy;congr 1;refine l7 ha.2 hb.2 fun z=>?_;constructor;intro hz;rcases eR.1 ((h z).1 (jI _ hz)) with h1|h1;subst h1;have:=ha.1 z hz;omega;exact h1;intro hz;rcases eR.1 ((h z).2 (jI _ hz)) with h1|h1;subst h1;have:=hb.1 z hz;omega;exact h1
theorem bZ.nodup{v:Int}{t s:Li}(h:bZ v t s):t.Nodup:=h.dis.imp fun hab e=>hab (by rw[e])
section
abbrev qJ:Int×Li×Li:=(0,([],[]))
def vB(v:Int)(t s:Li)(lit:Int):Int:=if bZ v t s then(if isLit v lit then 0 else 2) else 8
theorem im{v:Int}{t s:Li}{lit:Int}(ht:t.length<=140737488351232)(hs:s.length<=140737488351232)(hr:∀l∈t,in64 l)(hl:in64 lit):ep v t s lit=some (vB v t s lit):=by rw[ep.eq,cU ht hs hr,aj,cn];unfold vB;by_cases h:bZ v t s;rw[aa h,aa rfl,aa h,ki hl,aj,iA,cd];split<;>rfl;rw[ab h,ab (by omega),ab h]
theorem dG.loop{s:Li}{x:Int}(hn:s.length<=140737488351232):∀(n i:Nat),i+n=s.length->∃k,ax.l0 s x (s.length:Int) (i:Int)=some k/\(0<=k↔x∈s.drop i)
 |0,i,hi=>⟨-1,by rw[ax.l0_eq,cd,ab (by omega)],by rw[lD (by omega)];simp⟩
 |n+1,i,hi=>by
  have hlt:i<s.length:=by omega
  have hw2:=wi i (by omega);obtain⟨k,h1,h2⟩:=dG.loop hn n (i+1) (by omega);rw[ax.l0_eq,cd,aa (by omega),bu hlt,aj,ce,hw2,h1,drop_cons hlt];by_cases h:x=s[i];rw[aa h];exact⟨_,rfl,fun _=>by rw[h];exact ix ..,fun _=>by omega⟩;rw[ab h];refine⟨_,rfl,?_⟩;rw[h2,eR];exact⟨.inr,fun h'=>h'.resolve_left h⟩
theorem dH{s:Li}{x:Int}(hn:s.length<=140737488351232):bn s x=some (decide (x∈s)):=by obtain⟨k,h1,h2⟩:=dG.loop (x:=x) hn s.length 0 (by omega);rw[show((0:Nat):Int)=0 from rfl]at h1;rw[jH]at h2;rw[bn.eq,ax.eq,h1,aj];congr 1;rw[Dr];exact h2
def iU(l:Int):Int->Li->Int
 |_,[]=>-1
 |k,a::r=>if a/2=l/2 then k else iU l (k+1) r
theorem slices_IndexFunc.loop{v:Int}(hv:gD v){t:Li}(hl:∀l∈t,isLit v l)(hn:t.length<=140737488351232){lit:Int}(hlit:isLit v lit):∀(n i:Nat),i+n=t.length->aG.l0 t lit (t.length:Int) (i:Int)=some (iU lit (i:Int) (t.drop i))
 |0,i,hi=>by rw[aG.l0_eq,cd,ab (by omega),lD (by omega)];rfl
 |n+1,i,hi=>by
  have hlt:i<t.length:=by omega
  have hli:=hl _ (dW hlt);have hw2:=wi i (by omega);rw[aG.l0_eq,cd,aa (by omega),bu hlt,aj,dT.eq,aj,td (by omega) (by omega),td (by omega) (by omega),ce,hw2,slices_IndexFunc.loop hv hl hn hlit n (i+1) (by omega),drop_cons hlt];simp only[iU];split<;>rfl
def fg(s:Li)(i:Int):Nat:=(s.filter (fun x=>decide (x<=i))).length
theorem fE:∀{s:Li} {i:Int},s.Pairwise (· < ·)->∀(j:Nat) (hj:j<s.length),s[j]<=i↔j<fg s i
 |[],i,_,j,hj=>by simp at hj
 |a::r,i,hs,j,hj=>by
  rw[xg]at hs;unfold fg;rw[NB];by_cases h:a<=i
  .rw[aa (kp h),pI];cases j with
   |zero=>simp[h]
   |succ j=>have:=fE (i:=i) hs.2 j (by simpa using hj);unfold fg at this;simp only[OL];rw[this];omega
  .rw[ab (by simpa using h)];have h0:r.filter (fun x=>decide (x<=i))=[]:=by rw[ND];intro x hx hxi;have:=hs.1 x hx;have:=uW hxi;omega
   rw[h0];simp only[E3,Nat.not_lt_zero,iff_false];cases j with
   |zero=>exact h
   |succ j=>have:=hs.1 _ (dW (by simpa using hj:j<r.length));simp only[OL];omega
theorem nL{s:Li}{i:Int}:fg s i<=s.length:=Pg ..
theorem half{i j:Nat}(h:i+j<=1000000000000000):wrap .i64 (gT .u64 (wrap .u64 (wrap .i64 ((i:Int)+(j:Int)))) 1)=(((i+j)/2:Nat):Int):=by
 have h1:wrap .i64 ((i:Int)+(j:Int))=((i+j:Nat):Int):=by rw[wr]<;>omega
 have h2:wrap .u64 ((i+j:Nat):Int)=((i+j:Nat):Int):=by show((i+j:Nat):Int)%18446744073709551616=_;omega
 have h3:gT .u64 ((i+j:Nat):Int) 1=(((i+j)/2:Nat):Int):=by show Int.fdiv ((i+j:Nat):Int) (2^1)=_;rw[Ph _ (by decide)];omega
 rw[h1,h2,h3,wr]<;>omega
theorem wu{x y:Int}:cmp_Less_int x y=some (decide (x<y)):=by rw[cmp_Less_int.eq,cmp_isNaN_int.eq,aj,bne_self_eq_false,cf]
theorem dt.loop{s:Li}(hs:s.Pairwise (· < ·))(hn:s.length<=100000000000000){x:Int}:∀(m i j:Nat),j-i<=m->i<=j->j<=s.length->(∀(k:Nat) (hk:k<s.length),k<i->s[k]<x)->(∀(k:Nat) (hk:k<s.length),j<=k->x<=s[k]) ->
  ∃(n:Nat) (f:Bool),aq.l0 s x (s.length:Int) (i:Int) (j:Int)=some ((n:Int),f)/\(bif f then n+1 else n)=fg s x/\n<=s.length
 |0,i,j,hm,hij,hj,h1,h2=>by
  have he:j=i:=by omega
  subst he;have hle:=nL (s:=s) (i:=x);rw[aq.l0_eq,cd,ab (by omega),cd];by_cases hlt:j<s.length;rw[aa (by omega),bu hlt,aj,ce];have hge:=h2 j hlt (dD _);by_cases hx:s[j]=x;rw[aa hx];refine⟨j,true,rfl,?_,by omega⟩;rw[ct];have q1:=(fE (i:=x) hs j hlt).1 (by omega);apply og;intro hne;have hlt2:j+1<s.length:=by omega
  have q2:=(fE (i:=x) hs (j+1) hlt2).2 (by omega);have q3:=xd.1 hs j (j+1) hlt hlt2 (by omega);omega;rw[ab hx,aj,dw.eq,aj,bne_self_eq_false,cf];refine⟨j,false,rfl,?_,by omega⟩;rw[cf];apply og;intro hne;by_cases hc:j<fg s x;have:=(fE (i:=x) hs j hlt).2 hc;omega;have hjp:fg s x<j:=by omega
  have:=(fE (i:=x) hs (fg s x) (by omega)).1 (by have:=h1 (fg s x) (by omega) hjp;omega);omega;rw[ab (by omega)];refine⟨j,false,rfl,?_,by omega⟩;rw[cf];apply og;intro hne;have hjp:fg s x<j:=by omega
  have:=(fE (i:=x) hs (fg s x) (by omega)).1 (by have:=h1 (fg s x) (by omega) hjp;omega);omega
 |m+1,i,j,hm,hij,hj,h1,h2=>by
  by_cases he:i<j;have hh:(i+j)/2<s.length:=by omega
  have hw:wrap .i64 ((((i+j)/2:Nat):Int)+1)=(((i+j)/2+1:Nat):Int):=by rw[wr]<;>omega
  rw[aq.l0_eq,cd,aa (by omega),half (by omega),bu hh,aj,wu,aj,cd,hw];by_cases hx:s[(i+j)/2]<x;rw[aa hx];refine dt.loop hs hn m ((i+j)/2+1) j (by omega) (by omega) hj (fun k hk hki=>?_) h2;rcases iQ k ((i+j)/2) with hlt|hge;have:=xd.1 hs k ((i+j)/2) hk hh hlt;omega;have:k=(i+j)/2:=by omega
  subst this;exact hx;rw[ab hx];refine dt.loop hs hn m i ((i+j)/2) (by omega) (by omega) (by omega) h1 fun k hk hki=>?_;rcases iQ ((i+j)/2) k with hlt|hge;have:=xd.1 hs ((i+j)/2) k hh hk hlt;omega;have:k=(i+j)/2:=by omega
  subst this;omega;exact dt.loop hs hn 0 i j (by omega) hij hj h1 h2
theorem jN{s:Li}(hs:s.Pairwise (· < ·))(hn:s.length<=100000000000000)(x:Int):∃(n:Nat) (f:Bool),aq s x=some ((n:Int),f)/\(bif f then n+1 else n)=fg s x/\n<=s.length:=by rw[aq.eq];exact dt.loop hs hn s.length 0 s.length (by omega) (by omega) (dD _) (fun k hk h=>by omega) (fun k hk h=>by omega)
def BT(v:Int)(t s:Li)(lit:Int)(d:Bool):(Int×Li×Li)×Int:=
 if bZ v t s then(if isLit v lit then(if cH t lit=2 then((v,(t++[lit],if d then s++[(t.length:Int)] else s)),0) else(qJ,18)) else(qJ,2)) else(qJ,8)
def EF(v:Int)(t s:Li)(lit:Int):Int×Int:=if bZ v t s then(if isLit v lit then(cH t lit,0) else(0,2)) else(0,8)
def Fp(v:Int)(t s:Li)(lit:Int):Int×Int:=if bZ v t s then(if isLit v lit then(if iU lit 0 t<0 then(0,6) else((fg s (iU lit 0 t):Int),0)) else(0,2)) else(0,8)
def EH(v:Int)(t s:Li)(k:Int):(Int×Li×Li)×Int:=
 if bZ v t s then(if 0<=k/\k<=s.length then((v,((match s[k.toNat]? with|some n=>t.take n.toNat|none=>t),s.take k.toNat)),0) else(qJ,2)) else(qJ,8)
section
variable {v:Int} {t s:Li} (ht:t.length<=68719476000) (hs:s.length<=68719476000) (hr:∀l∈t,in64 l) {lit:Int} (hl:in64 lit)
include ht hs hr hl
theorem sG:il v t s lit=some (BT v t s lit false):=by
 rw[il.eq,im (by omega) (by omega) hr hl,aj,cn];unfold vB BT;by_cases h:bZ v t s;simp only[aa h];by_cases h2:isLit v lit;have hv:=h.vars;simp only[aa h2,sq];rw[dH (by omega),aj,eM (by omega) (by omega),dH (by omega),aj,cd,cd];by_cases c1:lit∈t;have:=(cy h.dis).2 c1;rw[aa c1,ab (by omega)];rw[ab c1];by_cases c2:neg lit∈t;have:=(cg h.dis).2 c2;rw[aa c2,ab (by omega)];have hS:cH t lit=2:=by rcases cQ t lit with q|q|q;exact absurd ((cg h.dis).1 q) c2;exact absurd ((cy h.dis).1 q) c1;exact q
 have g1:kb t 0 (t.length:Int)=some t:=by unfold kb;rw[aa (by omega)];simp
 have g2:kb s 0 (s.length:Int)=some s:=by unfold kb;rw[aa (by omega)];simp
 rw[ab c2,aa hS,g1,aj,bH (by simp;omega),aj,g2,aj,bH (by simp;omega),aj];rfl;simp only[ab h2];rfl;simp only[ab h];rfl
theorem pP:fM v t s lit=some (BT v t s lit false):=by rw[fM.eq,sG ht hs hr hl];rfl
theorem pN:fK v t s lit=some (EF v t s lit):=by
 rw[fK.eq,im (by omega) (by omega) hr hl,aj,cn];unfold vB EF;by_cases h:bZ v t s;simp only[aa h];by_cases h2:isLit v lit;have hv:=h.vars;simp only[aa h2,sq];rw[dH (by omega),aj,eM (by omega) (by omega),dH (by omega),aj,cd,cd];by_cases c1:lit∈t;rw[aa c1,(cy h.dis).2 c1];rw[ab c1];by_cases c2:neg lit∈t;rw[aa c2,(cg h.dis).2 c2];have hS:cH t lit=2:=by rcases cQ t lit with q|q|q;exact absurd ((cg h.dis).1 q) c2;exact absurd ((cy h.dis).1 q) c1;exact q
 rw[ab c2,hS];simp only[ab h2];rfl;simp only[ab h];rfl
theorem pO:fL v t s lit=some (Fp v t s lit):=by
 rw[fL.eq,im (by omega) (by omega) hr hl,aj,cn];unfold vB Fp;by_cases h:bZ v t s
 .simp only[aa h];by_cases h2:isLit v lit
  .have hv:=h.vars;simp only[aa h2,sq];have hidx:=slices_IndexFunc.loop hv h.lits (by omega) h2 t.length 0 (by omega);rw[show((0:Nat):Int)=0 from rfl,jH]at hidx;rw[aG.eq,hidx,aj,cd];by_cases h3:iU lit 0 t<0;rw[aa h3,aa h3]
   .obtain⟨n,f,g1,g2,g3⟩:=jN h.inc (by omega) (iU lit 0 t);rw[ab h3,ab h3,g1,aj,<-g2];cases f with
    |true=>have hw:=wi n (by omega);show some (wrap .i64 ((n:Int)+1),(0:Int))=_;rw[hw];rfl
    |false=>rfl
  simp only[ab h2];rfl
 simp only[ab h];rfl
end
theorem mU{t:Li}{k:Int}(h:0<=k/\k<=t.length):kb t 0 k=some (t.take k.toNat):=by unfold kb;rw[aa (by omega)];simp
theorem rK{v:Int}{t s:Li}(ht:t.length<=68719476000)(hs:s.length<=68719476000)(hr:∀l∈t,in64 l){k:Int}:gz v t s k=some (EH v t s k):=by
 rw[gz.eq,cU (by omega) (by omega) hr,aj,cn,cd,cd,cd];unfold EH;by_cases h:bZ v t s;rw[aa h,aa rfl,aa h];by_cases h1:k<0;rw[aa h1,ab (by omega)];rw[ab h1];by_cases h2:k>(s.length:Int);rw[aa h2,ab (by omega)];rw[ab h2,aa (show 0<=k/\k<=(s.length:Int) by omega)];have hk:(k.toNat:Int)=k:=by omega
 by_cases h3:k<(s.length:Int);have hlt:k.toNat<s.length:=by omega
 have hb:=h.bnd _ (dW hlt);have hg:aD s k=some s[k.toNat]:=by rw[MS (by omega),c6 hlt]
 rw[aa h3,hg,aj,mU (by omega),aj,bH (by simp;omega),aj,mU (by omega),aj,bH (by simp;omega),aj,c6 hlt];rfl;rw[ab h3,mU (by omega),aj,bH (by simp;omega),aj,mU (by omega),aj,bH (by simp;omega),aj,qA (by omega)];simp;rw[ab h,ab (by omega),ab h]
end
section
def keep(t s:Li)(k:Nat):Nat:=match s[k]? with|some n=>n.toNat|none=>t.length
theorem Cu{v:Int}{t s:Li}(h:bZ v t s){k i:Nat}(hk:k<=s.length)(hi:i<t.length):(fg s (i:Int)<=k)↔i<keep t s k:=by unfold keep;by_cases hlt:k<s.length;have:=fE (i:=(i:Int)) h.inc k hlt;have hb:=h.bnd _ (dW hlt);rw[c6 hlt];simp only;constructor;intro h1;apply og;intro h2;have:=this.1 (by omega);omega;intro h1;apply og;intro h2;have:=this.2 (by omega);omega;rw[qA (by omega)];have:=nL (s:=s) (i:=(i:Int));simp only;omega
section
variable {v:Int} {t s:Li} {lit:Int}
end
theorem EG{v:Int}{t s:Li}(h:bZ v t s){k:Int}(hk:0<=k/\k<=s.length):EH v t s k=((v,(t.take (keep t s k.toNat),s.take k.toNat)),0):=by
 unfold EH keep;rw[aa h,aa hk];cases s[k.toNat]? with
 |none=>simp
 |some n=>rfl
theorem yV{v:Int}{t s:Li}(h:bZ v t s)(k:Nat):keep t s k<=t.length:=by unfold keep;by_cases hlt:k<s.length;have hb:=h.bnd _ (dW hlt);rw[c6 hlt];simp only;omega;rw[qA (by omega)];simp
theorem bZ.undone{v:Int}{t s:Li}(h:bZ v t s){k:Nat}(hk:k<=s.length):bZ v (t.take (keep t s k)) (s.take k) where
 vars:=h.vars
 lits:=fun l hl=>h.lits l (HQ hl)
 dis:=h.dis.sublist (Mp ..)
 inc:=h.inc.sublist (Mp ..)
 bnd:=fun x hx=>by
  have hb:=h.bnd x (HQ hx);refine⟨hb.1,?_⟩;rw[lE,Pk (yV h k)];unfold keep;by_cases hlt:k<s.length;rw[c6 hlt];simp only;obtain⟨i,hi,rfl⟩:=Dj hx;have hik:i<k:=by rw[lE]at hi;omega
  have:=xd.1 h.inc i k (by omega) hlt hik;have hb2:=h.bnd _ (dW hlt);rw[Di]at hb ⊢;omega;rw[qA (by omega)];simp only;omega
theorem rf(l:Int):∀(t:Li) (k:Int),iU (neg l) k t=iU l k t
 |[],k=>rfl
 |a::r,k=>by simp only[iU,cq,rf l r]
theorem tB{l:Int}:∀{t:Li} {k:Int},0<=k->(iU l k t<0↔cH t l=2)
 |[],k,_=>by simp[iU,cH]
 |a::r,k,hk=>by have ih:=tB (l:=l) (t:=r) (k:=k+1) (by omega);rw[dN]at ih ⊢;simp only[iU];by_cases h:a/2=l/2;rw[aa h];exact⟨fun h2=>by omega,fun h2=>absurd h (h2 a (ix ..))⟩;rw[ab h,ih];constructor;intro h2 b hb;rcases eR.1 hb with rfl|hb;exact h;exact h2 b hb;exact fun h2 b hb=>h2 b (jI _ hb)
end
theorem bZ.dec{v:Int}{t s:Li}(h:bZ v t s){x:Int}(hx:isLit v x)(hf:cH t x=2):bZ v (t++[x]) (s++[(t.length:Int)]):=by have h3:=h.push hx hf;refine { h3 with inc:=?_,bnd:=fun y hy=>?_ };rw[LS];refine⟨h.inc,by simp,fun x hx y hy=>?_⟩;rw[fQ.1 hy];exact(h.bnd x hx).2;rw[ey,gC];rcases jR.1 hy with hy|hy;have:=h.bnd y hy;omega;rw[fQ.1 hy];omega
theorem uz:∀{t:Li} {k:Int} (i:Nat) (hi:i<t.length),t.Pairwise (fun a b=>a/2≠b/2)->iU t[i] k t=k+i
 |a::r,k,0,hi,_=>by simp[iU]
 |a::r,k,i+1,hi,hd=>by
  rw[xg]at hd;have hlt:i<r.length:=by simpa using hi
  have:=hd.1 _ (dW hlt);simp only[OL,iU];rw[ab this,uz i hlt hd.2];omega
def c8(v:Int)(L:Ll)(t:Li):Bool:=decide ((af L (v+1).toNat t).2>=0)
def mh(v:Int)(L:Ll)(c:Li):Bool:=c8 v L (c.map neg)
theorem yI{v:Int}(hv:gD v){c:Li}(hc:kd v c):bZ v (c.map neg) [] where
 vars:=hv
 lits:=fun l hl=>by obtain⟨x,hx,rfl⟩:=jC.1 hl;exact nr (hc.1 x hx)
 dis:=by rw[D1];exact hc.2.imp fun h=>by rw[cq,cq];omega
 inc:=List.Pairwise.nil
 bnd:=by simp
theorem gf{v:Int}{a b:Ll}:dM v (a++b)↔dM v a/\dM v b:=by unfold dM;constructor;exact fun h=>⟨fun c hc=>h c (uf _ hc),fun c hc=>h c (D4 _ hc)⟩;rintro⟨h1,h2⟩ c hc;rcases jR.1 hc with hc|hc;exact h1 c hc;exact h2 c hc
theorem bR.loop{v:Int}(hv:gD v){L:Ll}(hL:dM v L)(hn:L.length<=100000):∀(n i:Nat),i+n=L.length->bR.l0 v L (L.length:Int) (i:Int)=some 0
 |0,i,hi=>by rw[bR.l0_eq,cd,ab (by omega)]
 |n+1,i,hi=>by
  have hlt:i<L.length:=by omega
  have hw2:=wi i (by omega);have hc:=hL _ (dW hlt);have hcl:=hc.len hv;rw[bR.l0_eq,cd,aa (by omega),bu hlt,aj,dO (by omega) (fun l hl=>jr hv (hc.1 l hl)),aj,aa hv,aa hc,cn,aa rfl,hw2];exact bR.loop hv hL hn n (i+1) (by omega)
theorem uC{v:Int}(hv:gD v){L:Ll}(hL:dM v L){c:Li}(hc:kd v c){W:Lb}(hm:∀c∈L,c.any (cO W)=true)(h:mh v L c=true):c.any (cO W)=true:=by
 apply og;intro hn;have hf:∀l∈c,cO W l=false:=fun l hl=>by
  cases ht:cO W l with
  |false=>rfl
  |true=>exact absurd (nh.2 ⟨l,hl,ht⟩) hn
 have:=(pe hL hm (v+1).toNat (yI hv hc) fun l hl=>by obtain⟨x,hx,rfl⟩:=jC.1 hl;rw[lG (hc.1 x hx).1,hf x hx];rfl).1
 unfold mh c8 at h;have:=uW h;omega
theorem eQ(l:Li):(gQ l).Perm l/\(gQ l).Pairwise (· <= ·):=by refine⟨List.mergeSort_perm _ _,?_⟩;have:=List.pairwise_mergeSort (le:=fun x y:Int=>decide (x<=y)) (by simp;omega) (by simp;omega) l;exact this.imp fun h=>by simpa using h
theorem oE{l:Li}{j:Nat}(hj:j<l.length):Lib.keeps l.toArray j=true↔j=0\/l[j]≠l[j-1]'(by omega):=by
 unfold Lib.keeps;by_cases h0:j=0;simp[h0];have h1:j-1<l.length:=by omega
 simp[h0,hj,h1]
theorem wk {l : Li} {x : Int} : x ∈ Lib.compact l ↔ ∃ j, ∃ hj : j < l.length, Lib.keeps l.toArray j = true ∧ x = l[j] := by
  unfold Lib.compact Lib.compactUpTo;rw [jC];constructor
  · rintro ⟨j, hj, rfl⟩
    rw [p6, yC] at hj;exact ⟨j, hj.1, hj.2, by simp [hj.1]⟩
  · rintro ⟨j, hj, hk, rfl⟩
    exact ⟨j, p6.2 ⟨yC.2 hj, hk⟩, by simp [hj]⟩
theorem uH {l : Li} (hs : l.Pairwise (· ≤ ·)) : (Lib.compact l).Pairwise (· < ·) ∧ ∀ x, x ∈ Lib.compact l ↔ x ∈ l := by
  constructor
  · unfold Lib.compact Lib.compactUpTo
    rw [D1];refine OO (fun {i j} hi hj hij => ?_) (NF.filter _);rw [p6, yC] at hi hj;have hk := (oE hj.1).1 hj.2;rcases hk with h0 | hne
    · omega
    · have h1 : l[j - 1]'(by omega) ≤ l[j] := xd.1 hs (j - 1) j (by omega) hj.1 (by omega)
      have h2 : l[i]'hi.1 ≤ l[j - 1]'(by omega) := by
        by_cases he : i = j - 1
        · subst he; exact LK _
        · exact xd.1 hs i (j - 1) hi.1 (by omega) (by omega)
      have e1 : l.toArray[i]! = l[i]'hi.1 := by simp [hi.1]
      have e2 : l.toArray[j]! = l[j]'hj.1 := by simp [hj.1]
      rw [e1, e2];omega
  · intro x
    rw [wk];constructor
    · rintro ⟨j, hj, _, rfl⟩
      exact dW hj
    · intro hx
      obtain ⟨i, hi, rfl⟩ := Dj hx
      induction i with
      | zero => exact ⟨0, hi, (oE hi).2 (.inl rfl), rfl⟩
      | succ i ih =>
        by_cases he : l[i + 1] = l[i]'(by omega)
        · obtain ⟨j, hj, hk, e⟩ := ih (by omega) (dW _)
          exact ⟨j, hj, hk, he.trans e⟩
        · exact ⟨i + 1, hi, (oE hi).2 (.inr (by simpa using he)), rfl⟩
theorem aQ.loop1 {o : Li} (hn : o.length ≤ 1000000) (hr : ∀ x ∈ o, 0 ≤ x ∧ x ≤ 100000) : ∀ (n i : Nat), i + n = o.length →
    aQ.l1 (o.length : Int) (i : Int) o = some (if ∀ j, j < o.length → i ≤ j → 0 < j → o.getD j 0 / 2 ≠ o.getD (j - 1) 0 / 2 then (o, false, 0) else ([], true, 0))
  | 0, i, hi => by rw [aQ.l1_eq, cd, ab (by omega), aa (fun j h1 h2 => by omega)]
  | n + 1, i, hi => by
    have hlt : i < o.length := by omega
    have hx := hr _ (dW hlt);have hw : wrap .i64 ((i : Int) + 1) = ((i + 1 : Nat) : Int) := by rw [wr] <;> omega
    rw [aQ.l1_eq, cd, aa (by omega), cd, hw, aQ.loop1 hn hr n (i + 1) (by omega)];have stay : (0 < i → o.getD i 0 / 2 ≠ o.getD (i - 1) 0 / 2) → (if ∀ j, j < o.length → i + 1 ≤ j → 0 < j → o.getD j 0 / 2 ≠ o.getD (j - 1) 0 / 2 then (o, false, (0 : Int)) else ([], true, 0)) =
        if ∀ j, j < o.length → i ≤ j → 0 < j → o.getD j 0 / 2 ≠ o.getD (j - 1) 0 / 2 then (o, false, 0) else ([], true, 0) := fun hst => by
      by_cases hall : ∀ j, j < o.length → i ≤ j → 0 < j → o.getD j 0 / 2 ≠ o.getD (j - 1) 0 / 2
      · rw [aa hall, aa (fun j h1 h2 h3 => hall j h1 (by omega) h3)]
      · rw [ab hall, ab (fun h' => hall fun j h1 h2 h3 => by
          by_cases he : j = i
          · subst he; exact hst h3
          · exact h' j h1 (by omega) h3)]
    by_cases h0 : 0 < i
    · have hp : i - 1 < o.length := by omega
      have hy := hr _ (dW hp);have hw2 : wrap .i64 ((i : Int) - 1) = ((i - 1 : Nat) : Int) := by rw [wr] <;> omega
      have g1 : o.getD i 0 = o[i] := by simp [hlt]
      have g2 : o.getD (i - 1) 0 = o[i - 1] := by simp [hp]
      rw [aa (by omega), bu hlt, aj, jm, c6 hlt, aj, hw2, bu hp, aj, jm, c6 hp, aj, td (by omega) (by omega), td (by omega) (by omega), ce];by_cases he : o[i] / 2 = o[i - 1] / 2
      · rw [aa he, ab (fun hall => hall i hlt (dD _) h0 (by rw [g1, g2]; exact he))]
      · rw [ab he, stay (fun _ => by rw [g1, g2]; exact he)]
    · rw [ab (by omega), stay (fun h => absurd h h0)]
theorem aQ.loop0{v:Int}(hv:gD v){l:Li}(hl:∀x∈l,isLit v x)(hn:l.length<=1000000):∀(n i:Nat),i+n=l.length ->
  aQ.l0 v l l (l.length:Int) (i:Int)=aQ.l1 ((Lib.compact (gQ l)).length:Int) 0 (Lib.compact (gQ l))
 |0,i,hi=>by have hs:=(eQ l).1.length_eq;rw[aQ.l0_eq,cd,ab (by omega),dU (by omega),aj];unfold lim mR;rw[aa (by omega),aj,aa (by omega),aj]
 |n+1,i,hi=>by
  have hlt:i<l.length:=by omega
  have hm:=hl _ (dW hlt);have hw:=wi i (by omega);rw[aQ.l0_eq,cd,aa (by omega),bu hlt,aj,kf hv (by omega),aj,kp hm,P3,cf,hw,aQ.loop0 hv hl hn n (i+1) (by omega)]
abbrev gd(h:Li)(i:Nat):Int:=h.getD i 0
theorem mg{h:Li}{i:Nat}(hi:i<h.length):gd h i=h[i]:=by unfold gd;rw[iB,c6 hi];rfl
abbrev BX(h:Li):Prop:=∀i,i<h.length->0<i->gd h ((i-1)/2)<=gd h i
structure vD(h:Li):Prop where
 len:h.length<=4000
 rng:∀x∈h,1<=x/\x<=4000
 nodup:h.Nodup
 par:BX h
instance (h:Li):Decidable (vD h):=
 decidable_of_iff (h.length<=4000/\(∀x∈h,1<=x/\x<=4000)/\h.Nodup/\BX h) ⟨fun⟨h1,h2,h3,h4⟩=>⟨h1,h2,h3,h4⟩,fun h=>⟨h.1,h.2,h.3,h.4⟩⟩
abbrev Jj(h:Li)(i:Nat):Prop:=(1<=gd h i/\gd h i<=4000)/\gd h i∉h.take i/\(0<i->gd h ((i-1)/2)<=gd h i)
theorem yG{h:Li}:vD h↔h.length<=4000/\∀i,i<h.length->Jj h i:=by
 constructor;intro k;refine⟨k.len,fun i hi=>⟨by rw[mg hi];exact k.rng _ (dW hi),fun hm=>?_,k.par i hi⟩⟩;obtain⟨j,hj,he⟩:=Dj hm;rw[lE]at hj;rw[Di,mg hi]at he;have:=(List.getElem_inj k.nodup).1 he;omega
 .rintro⟨k1,k2⟩;refine⟨k1,fun x hx=>?_,?_,fun i hi h0=>(k2 i hi).2.2 h0⟩
  .obtain⟨i,hi,rfl⟩:=Dj hx;have:=(k2 i hi).1
   rwa [mg hi]at this
  rw[List.Nodup,xd];intro i j hi hj hij he;refine(k2 j hj).2.1 ?_;rw[mg hj,<-he,LR];exact⟨i,by rw[lE];omega,Di⟩
def mW(h:Li)(i k:Nat):Li:=(h.set i (gd h k)).set k (gd h i)
theorem lH{h:Li}{i k:Nat}:(mW h i k).length=h.length:=by unfold mW;rw[lY,lY]
theorem mV{h:Li}{i k:Nat}(hi:i<h.length)(hk:k<h.length)(j:Nat):gd (mW h i k) j=if j=k then gd h i else if j=i then gd h k else gd h j:=by unfold mW;simp only[gd,iB];rw[zH];by_cases h1:j=k;rw[aa h1.symm,aa h1,aa (by rw[lY];omega)];rfl;rw[ab (fun e=>h1 e.symm),ab h1,zH];by_cases h2:j=i;rw[aa h2.symm,aa h2,aa (by omega)];rfl;rw[ab (fun e=>h2 e.symm),ab h2]
theorem xA{h:Li}{i k:Nat}(hi:i<h.length)(hk:k<h.length):(mW h i k).Perm h:=by unfold mW;rw[mg hi,mg hk];exact List.set_set_perm hi hk
def dp(o:Li)(i:Nat):Nat:=
 if 2*i+2<o.length/\gd o (2*i+2)<gd o (if 2*i+1<o.length/\gd o (2*i+1)<gd o i then 2*i+1 else i) then 2*i+2
 else if 2*i+1<o.length/\gd o (2*i+1)<gd o i then 2*i+1 else i
theorem nP(o:Li)(i:Nat):dp o i=i/\(∀j,j<o.length->0<j->(j-1)/2=i->gd o i<=gd o j) \/
  (dp o i<o.length/\0<dp o i/\(dp o i-1)/2=i/\gd o (dp o i)<gd o i/\∀j,j<o.length->0<j->(j-1)/2=i->gd o (dp o i)<=gd o j):=by
 have hj:∀j,0<j->(j-1)/2=i->j=2*i+1\/j=2*i+2:=fun j h0 h1=>by omega
 unfold dp;by_cases h1:2*i+1<o.length/\gd o (2*i+1)<gd o i;simp only[aa h1];by_cases h2:2*i+2<o.length/\gd o (2*i+2)<gd o (2*i+1);rw[aa h2];refine .inr ⟨h2.1,by omega,by omega,by omega,fun j hl h0 he=>?_⟩;rcases hj j h0 he with rfl|rfl;omega;omega;rw[ab h2];refine .inr ⟨h1.1,by omega,by omega,h1.2,fun j hl h0 he=>?_⟩;rcases hj j h0 he with rfl|rfl;omega;omega;simp only[ab h1];by_cases h2:2*i+2<o.length/\gd o (2*i+2)<gd o i;rw[aa h2];refine .inr ⟨h2.1,by omega,by omega,by omega,fun j hl h0 he=>?_⟩;rcases hj j h0 he with rfl|rfl;omega;omega;rw[ab h2];refine .inl ⟨rfl,fun j hl h0 he=>?_⟩;rcases hj j h0 he with rfl|rfl;omega;omega
def jO:Nat->Li->Nat->Li
 |0,o,_=>o
 |n+1,o,i=>if dp o i=i then o else jO n (mW o i (dp o i)) (dp o i)
def popped(h:Li):Li:=jO h.length (h.dropLast.set 0 (gd h (h.length-1))) 0
theorem oH{o:Li}{i:Nat}(h:dp o i≠i):dp o i<o.length/\i<dp o i:=by rcases nP o i with⟨h1,_⟩|⟨h1,h2,h3,_⟩;exact absurd h1 h;exact⟨h1,by omega⟩
theorem kN:∀(n:Nat) {o:Li} {i:Nat},(jO n o i).Perm o
 |0,o,i=>List.Perm.refl _
 |n+1,o,i=>by unfold jO;split;exact List.Perm.refl _;rename_i h;have hb:=oH h;exact(kN n).trans (xA (by omega) hb.1)
theorem qo:∀(n:Nat) {o:Li} {i:Nat},o.length<n+i->(∀j,j<o.length->0<j->(j-1)/2≠i->gd o ((j-1)/2)<=gd o j) ->
  (0<i->∀j,j<o.length->0<j->(j-1)/2=i->gd o ((i-1)/2)<=gd o j)->BX (jO n o i)
 |0,o,i,hn,h1,h2=>by intro j hj h0;exact h1 j hj h0 (by unfold jO at hj;omega)
 |n+1,o,i,hn,h1,h2=>by
  unfold jO;rcases nP o i with⟨h3,h4⟩|⟨h3,h4,h5,h6,h7⟩;rw[aa h3];intro j hj h0;by_cases g:(j-1)/2=i;rw[g];exact h4 j hj h0 g;exact h1 j hj h0 g;generalize dp o i=b at h3 h4 h5 h6 h7 ⊢;rw[ab (by omega)];have hi:i<o.length:=by omega
  refine qo n (by rw[lH];omega) (fun j hj h0 hne=>?_) (fun hb0 j hj h0 he=>?_);rw[lH]at hj;rw[mV hi h3,mV hi h3,ab hne];by_cases g1:(j-1)/2=i;rw[aa g1];by_cases g2:j=b;rw[aa g2];omega;rw[ab g2,ab (by omega)];exact h7 j hj h0 g1;rw[ab g1];by_cases g2:j=b;subst g2;omega;rw[ab g2];by_cases g3:j=i;rw[aa g3];subst g3;exact h2 h0 b h3 h4 h5;rw[ab g3];exact h1 j hj h0 g1;rw[lH]at hj;rw[mV hi h3,mV hi h3,h5,ab (by omega),aa rfl,ab (by omega),ab (by omega)];have:=h1 j hj h0 (by omega);rw[he]at this;exact this
theorem zd{o:Li}{x:Int}{i:Nat}(h:0<i):gd (o.set 0 x) i=gd o i:=by simp only[gd,iB];rw[zH,ab (by omega)]
theorem px{h:Li}{i:Nat}(hi:i<h.length-1):gd h.dropLast i=gd h i:=by simp only[gd,iB];rw[List.dropLast_eq_take,Qs hi]
theorem pf{h:Li}(hne:h≠[]):(gd h 0::popped h).Perm h:=by
 have hp:(popped h).Perm (h.dropLast.set 0 (gd h (h.length-1))):=kN _;refine(hp.cons _).trans ?_;cases h with
 |nil=>exact absurd rfl hne
 |cons a r=>
  rcases JN r with rfl|⟨m,l,rfl⟩;simp;rw[JM];have h1:(a::(m++[l])).dropLast=a::m:=by rw[<-List.cons_append,PV]
  have h2:gd (a::(m++[l])) ((a::(m++[l])).length-1)=l:=by simp[gd]
  rw[h1,h2,RS];show(a::l::m).Perm _;exact(List.perm_append_singleton l m).symm.cons a
theorem mB{h:Li}:(popped h).length=h.length-1:=by unfold popped;rw[(kN _).length_eq,lY,OJ]
theorem vD.popped {h : Li} (k : vD h) (hne : h ≠ []) : vD (popped h) := by
  have hp := pf hne;have hd := hp.nodup_iff.2 k.nodup;have hl := mB (h := h);have h0 : 0 < h.length := by cases h with | nil => exact absurd rfl hne | cons a r => simp
  refine ⟨by have := k.len; omega, fun x hx => k.rng x (hp.mem_iff.1 (jI _ hx)), (zI.1 hd).2, ?_⟩;refine qo _ (by rw [lY, OJ]; omega) (fun j hj hj0 hne => ?_) (fun h0 => absurd h0 (OF _));rw [lY, OJ] at hj;rw [zd (by omega), zd hj0, px (by omega), px hj];exact k.par j (by omega) hj0
theorem vD.min {h : Li} (k : vD h) : ∀ (n i : Nat), i ≤ n → i < h.length → gd h 0 ≤ gd h i
  | 0, i, hn, hi => by have : i = 0 := by omega
                       subst this; exact LK _
  | n + 1, i, hn, hi => by
    by_cases h0 : 0 < i
    · exact Int.le_trans (k.min n ((i - 1) / 2) (by omega) (by omega)) (k.par i hi h0)
    · exact k.min n i (by omega) hi
theorem vD.least {h : Li} (k : vD h) {x : Int} (hx : x ∈ h) : gd h 0 ≤ x := by obtain ⟨i, hi, rfl⟩ := Dj hx;rw [← mg hi];exact k.min i i (dD _) hi
theorem Qx{p q:Prop}[Decidable p][Decidable q]{α:Type}{a b:α}(h:p↔q):(if p then a else b)=if q then a else b:=by by_cases hp:p;rw[aa hp,aa (h.1 hp)];rw[ab hp,ab (fun hq=>hp (h.2 hq))]
theorem Fo{h:Li}{i:Nat}(hi:i<h.length):h[i]?=some (gd h i):=by rw[c6 hi,mg hi]
theorem Fy{h:Li}{i:Nat}(hi:i<h.length):aD h (i:Int)=some (gd h i):=by rw[gi,Fo hi]
theorem Mw{i:Nat}(h:0<i)(h2:i<=1000000000000):wrap .i64 (Int.tdiv (wrap .i64 ((i:Int)-1)) 2)=(((i-1)/2:Nat):Int):=by rw[wr (x:=(i:Int)-1) (by omega) (by omega),td (by omega) (by omega)];omega
theorem ML{i:Nat}(h:i<=1000000000000):wrap .i64 (wrap .i64 (2*(i:Int))+1)=((2*i+1:Nat):Int):=by rw[wr (x:=2*(i:Int)) (by omega) (by omega),wr (by omega) (by omega)];omega
theorem vk{i:Nat}(h:i<=1000000000000):wrap .i64 ((i:Int)+1)=((i+1:Nat):Int):=by rw[wr (by omega) (by omega)];omega
theorem Mv{i:Nat}(h:i<=1000000000000)(h0:0<i):wrap .i64 ((i:Int)-1)=((i-1:Nat):Int):=by rw[wr (by omega) (by omega)];omega
theorem bz.loop{h:Li}(hn:h.length<=4000):∀(n i:Nat) (o:Lb),i+n=h.length->o.length=4001->(∀k:Nat,k<4001->o[k]?=some (decide ((k:Int)∈h.take i))) ->
  bz.l0 h h (h.length:Int) (i:Int) o=some (if ∀j,j<h.length->i<=j->Jj h j then 0 else 8)
 |0,i,o,hi,ho,hk=>by rw[bz.l0_eq,cd,ab (by omega),aa (fun j h1 h2=>by omega)]
 |n+1,i,o,hi,ho,hk=>by
  have hlt:i<h.length:=by omega
  have bad:¬Jj h i->(if ∀j,j<h.length->i<=j->Jj h j then(0:Int) else 8)=8:=fun hb=>ab fun all=>hb (all i hlt (dD _));rw[bz.l0_eq,cd,aa (by omega),Fy hlt,aj,cd,cd];by_cases c1:gd h i<1;rw[aa c1,bad (fun q=>by have:=q.1.1;omega)];rw[ab c1];by_cases c2:gd h i>4000;rw[aa c2,bad (fun q=>by have:=q.1.2;omega)];rw[ab c2];obtain⟨k,hkk⟩:∃k:Nat,gd h i=(k:Int):=⟨(gd h i).toNat,by omega⟩;rw[hkk,gi,jm,hk k (by omega),aj,aj,cd];by_cases c3:(k:Int)∈h.take i;rw[aa c3,bad (fun q=>q.2.1 (by rw[hkk];exact c3))];rw[ab c3];have htk:h.take (i+1)=h.take i++[(k:Int)]:=by rw[BP,Fo hlt,hkk];rfl
  have ih:=bz.loop hn n (i+1) (o.set k true) (by omega) (by rw[lY];exact ho) (fun j hj=>by rw[zH,htk];by_cases hjk:k=j;subst hjk;rw[aa rfl,aa (by omega)];congr 1;symm;rw[NY];exact jR.2 (.inr (fQ.2 rfl));rw[ab hjk,hk j hj];congr 1;rw[Dr,jR,fQ];exact⟨.inl,fun h=>h.resolve_right (by omega)⟩)
  have good:Jj h i->(if ∀j,j<h.length->i+1<=j->Jj h j then(0:Int) else 8)=if ∀j,j<h.length->i<=j->Jj h j then 0 else 8:=fun hg=>
   Qx ⟨fun a j h1 h2=>by by_cases he:j=i;subst he;exact hg;exact a j h1 (by omega),fun a j h1 h2=>a j h1 (by omega)⟩
  rw[vk (by omega),ih,cd];have rng:1<=gd h i/\gd h i<=4000:=by omega
  have nin:gd h i∉h.take i:=by rw[hkk];exact c3
  by_cases c4:0<i;rw[aa (by omega),Mw c4 (by omega),Fy (by omega),aj,cd];by_cases c5:(k:Int)<gd h ((i-1)/2);rw[aa c5,bad (fun q=>by have:=q.2.2 c4;omega)];rw[ab c5,good ⟨rng,nin,fun _=>by omega⟩];rfl;rw[ab (by omega),good ⟨rng,nin,fun h=>absurd h c4⟩];rfl
theorem pK{h:Li}:bz h=some (if vD h then 0 else 8):=by rw[bz.eq,cd];by_cases c:(h.length:Int)>4000;rw[aa c,ab (fun k=>by have:=k.len;omega)];rw[ab c];have:=bz.loop (h:=h) (by omega) h.length 0 (List.replicate 4001 false) (by omega) (by rw[qz]) (fun k hk=>by rw[Kt,aa hk];simp);rw[show((0:Nat):Int)=0 from rfl]at this;rw[this];congr 1;refine Qx ⟨fun a=>yG.2 ⟨by omega,fun i hi=>a i hi (Ks _)⟩,fun a j h1 _=>(yG.1 a).2 j h1⟩
theorem EJ{p:Li}{z:Int}{n:Nat}(hn:p.length=n):cN (p++[z]) 0 n=p:=by subst hn;simp[cN]
theorem aU.one{p:Li}{first:Int}{i b k n:Nat}(hn:p.length=n)(hl:n<=1000000000)(hi:i<=1000000000)(hk:k<2)(hb:2*i+1+k<n->b<n):
  aU.l1 first (n:Int) (i:Int) (b:Int) (k:Int) p=aU.l1 first (n:Int) (i:Int) ((if 2*i+1+k<n/\gd p (2*i+1+k)<gd p b then 2*i+1+k else b:Nat):Int) ((k+1:Nat):Int) p:=by
 have hw:wrap .i64 (wrap .i64 (wrap .i64 (2*(i:Int))+1)+(k:Int))=((2*i+1+k:Nat):Int):=by rw[ML (by omega),wr (by omega) (by omega)];omega
 rw[aU.l1_eq,cd,aa (by omega),hw,vk (by omega),cd];by_cases c1:2*i+1+k<n;have h1:2*i+1+k<p.length:=by omega
 have h2:b<p.length:=by have:=hb c1;omega
 rw[aa (by omega),Fy h1,aj,jm,Fo h1,aj,Fy h2,aj,jm,Fo h2,aj,cd];by_cases c2:gd p (2*i+1+k)<gd p b;rw[aa c2,aa ⟨c1,c2⟩];rw[ab c2,ab (fun h=>c2 h.2)];rw[ab (by omega),ab (fun h=>c1 h.1)]
theorem aU.round{p:Li}{first:Int}{i n:Nat}(hn:p.length=n)(hl:n<=1000000000)(hi:i<=1000000000):
  aU.l0 first (n:Int) (i:Int) p=if dp p i=i then some (first,p) else aU.l0 first (n:Int) ((dp p i:Nat):Int) (mW p i (dp p i)):=by
 have e1:=aU.one (first:=first) (b:=i) (k:=0) hn hl hi (by omega) (fun h=>by omega);have e2:=aU.one (first:=first) (b:=if 2*i+1+0<n/\gd p (2*i+1+0)<gd p i then 2*i+1+0 else i) (k:=1) hn hl hi (by omega) (fun h=>by split<;>omega);have hbest:(if 2*i+1+1<n/\gd p (2*i+1+1)<gd p (if 2*i+1+0<n/\gd p (2*i+1+0)<gd p i then 2*i+1+0 else i) then 2*i+1+1 else if 2*i+1+0<n/\gd p (2*i+1+0)<gd p i then 2*i+1+0 else i)=dp p i:=by subst hn;rfl
 rw[hbest]at e2;rw[show((0:Nat):Int)=0 from rfl,show((0+1:Nat):Int)=((1:Nat):Int) from rfl]at e1;rw[aU.l0_eq,e1,e2,aU.l1_eq,cd,ab (by omega),ce];by_cases c:dp p i=i;rw[aa c,aa (by rw[c])];obtain⟨b1,b2⟩:=oH c;have hi2:i<p.length:=by omega
 rw[ab c,ab (by omega)];generalize dp p i=b at b1 b2;have g2:b<(p.set i (gd p b)).length:=by rw[lY];exact b1
 rw[Fy b1,aj,jm,Fo b1,aj,Fy hi2,aj,jm,Fo hi2,aj,aj,aj,
  Fy g2,aj,Fo g2,aj]
 rfl
theorem aU.loop{first:Int}{n:Nat}(hl:n<=1000000000):∀(m:Nat) {p:Li} {i:Nat},p.length=n->n<m+i->i<=n->aU.l0 first (n:Int) (i:Int) p=some (first,jO m p i)
 |0,p,i,hn,hm,hi=>by omega
 |m+1,p,i,hn,hm,hi=>by rw[aU.round hn hl (by omega)];unfold jO;by_cases c:dp p i=i;rw[aa c,aa c];obtain⟨b1,b2⟩:=oH c;rw[ab c,ab c];exact aU.loop hl m (by rw[lH];exact hn) (by omega) (by omega)
theorem sz{h:Li}(hne:h≠[])(hl:h.length<=100000000):aU h=some (gd h 0,popped h):=by
 have h0:0<h.length:=by cases h with|nil=>exact absurd rfl hne|cons a r=>simp
 have hz:aD h 0=some (gd h 0):=Fy (i:=0) h0;have hlast:h.length-1<h.length:=by omega
 obtain⟨q,hq⟩:∃q,h.set 0 (gd h (h.length-1))=q:=⟨_,rfl⟩;have hql:q.length=h.length:=by rw[<-hq,lY]
 have hsplit:q=h.dropLast.set 0 (gd h (h.length-1))++[gd h (h.length-1)]:=by
  rw[<-hq];rcases JN h with rfl|⟨m,l,rfl⟩;exact absurd rfl hne
  .rw[JM,PV];have e:gd (m++[l]) ((m++[l]).length-1)=l:=by simp[gd]
   rw[e];cases m with
   |nil=>rfl
   |cons a m=>rfl
 have hw:wrap .i64 ((h.length:Int)-1)=((h.length-1:Nat):Int):=Mv (by omega) h0;rw[aU.eq,hz,aj,show Int.toNat (0:Int)=0 from rfl,Fo h0,aj,hw,Fy hlast,aj,jm,Fo hlast,aj,aj,aj,hq,hql];have hc:(decide ((0:Int)<=0)&&decide ((0:Int)<=((h.length-1:Nat):Int))&&decide (((h.length-1:Nat):Int)<=(h.length:Int)))=true:=by rw[eJ,eJ,ir,ir,ir];omega
 have hcut:(h.dropLast.set 0 (gd h (h.length-1))).length=h.length-1:=by rw[lY,OJ]
 rw[hc,show HW true=some () from rfl,aj,Int.sub_zero,jm,hsplit,EJ hcut];have:=aU.loop (first:=gd h 0) (n:=h.length-1) (by omega) h.length (p:=h.dropLast.set 0 (gd h (h.length-1))) (i:=0) hcut (by omega) (by omega);rw[show((0:Nat):Int)=0 from rfl]at this;exact this
theorem ne_nil{h:Li}(hh:¬h.length=0):h≠[]:=fun e=>hh (by rw[e];rfl)
abbrev free(v:Int)(t:Li)(x:Int):Prop:=x<=v/\∀a∈t,a/2≠x
def po(v:Int)(t:Li):Nat->Li->Int×Li×Int
 |0,_=>(0,[],6)
 |n+1,h=>if h.length=0 then(0,[],6) else if free v t (gd h 0) then(gd h 0,popped h,0) else po v t n (popped h)
def th(h:Li)(v:Int)(t s:Li):Int×Li×Int:=if vD h then(if bZ v t s then po v t (h.length+1) h else(0,[],8)) else(0,[],8)
theorem CA{h:Li}{i:Nat}(hi:i<h.length):gd h i∈h:=by rw[mg hi];exact dW hi
theorem aT.loop1{v:Int}(hv:gD v){t s:Li}{o:Lb}(ho:(o.length:Int)=v+1)(hm:∀k:Nat,k<o.length->o[k]?=some (decide (∃a∈t,a/2=(k:Int)))):∀(n:Nat) {h:Li},vD h->h.length<n ->
  aT.l1 v t s o h=some (po v t n h)
 |0,h,hk,hn=>by omega
 |n+1,h,hk,hn=>by
  have hlen:=hk.len;rw[aT.l1_eq,cd];simp only[po];by_cases c1:h.length=0;rw[ab (by omega),aa c1];have h0:0<h.length:=by omega
  have hr:=hk.rng _ (CA h0);have hpl:=mB (h:=h);rw[aa (by omega),ab c1,sz (ne_nil c1) (by omega),aj];simp only[cd];rw[aT.loop1 hv ho hm n (hk.popped (ne_nil c1)) (by omega)];by_cases c2:gd h 0<=v;obtain⟨k,hkk⟩:∃k:Nat,gd h 0=(k:Int):=⟨(gd h 0).toNat,by omega⟩;rw[aa c2,hkk,gi,jm,hm k (by omega),aj,aj,iA,cd];by_cases c3:∃a∈t,a/2=(k:Int);rw[aa c3,ab (fun h=>by obtain⟨a,ha,hb⟩:=c3;exact h.2 a ha hb)];rw[ab c3,aa ⟨by omega,fun a ha hb=>c3 ⟨a,ha,hb⟩⟩];rw[ab c2,ab (fun h=>c2 h.1)]
theorem aT.loop0{v:Int}(hv:gD v){t s h:Li}(ht:∀l∈t,isLit v l)(hn:t.length<=100000000)(hh:h.length<=100000000):∀(n i:Nat) (o:Lb),i+n=t.length->(o.length:Int)=v+1 ->
  (∀k:Nat,k<o.length->o[k]?=some (decide (∃a∈t.take i,a/2=(k:Int)))) ->
  ∃o',aT.l0 h t (t.length:Int) (i:Int) v t s o=aT.l1 v t s o' h/\(o'.length:Int)=v+1/\∀k:Nat,k<o'.length->o'[k]?=some (decide (∃a∈t,a/2=(k:Int)))
 |0,i,o,hi,ho,hk=>by refine⟨o,?_,ho,?_⟩;rw[aT.l0_eq,cd,ab (by omega),dU (by omega),aj];rw[BQ (by omega)]at hk;exact hk
 |n+1,i,o,hi,ho,hk=>by
  have hlt:i<t.length:=by omega
  have hl:=ht _ (dW hlt);obtain⟨k,hkk⟩:∃k:Nat,t[i]/2=(k:Int):=⟨(t[i]/2).toNat,by omega⟩;have hko:k<o.length:=by omega
  have hd:wrap .i64 (Int.tdiv t[i] 2)=(k:Int):=by rw[td (by omega) (by omega),hkk]
  have htk:t.take (i+1)=t.take i++[t[i]]:=by rw[BP,c6 hlt];rfl
  rw[aT.l0_eq,cd,aa (by omega),bu hlt,aj,hd,gi,jm,c6 hko,aj,aj,vk (by omega)];refine aT.loop0 hv ht hn hh n (i+1) (o.set k true) (by omega) (by rw[lY];exact ho) (fun j hj=>?_);rw[lY]at hj;rw[zH,htk];by_cases hjk:k=j;subst hjk;rw[aa rfl,aa hj];congr 1;symm;rw[NY];exact⟨t[i],jR.2 (.inr (fQ.2 rfl)),hkk⟩;rw[ab hjk,hk j hj];congr 1;rw[Dr];constructor;rintro⟨a,ha,hb⟩;exact⟨a,jR.2 (.inl ha),hb⟩;rintro⟨a,ha,hb⟩;rcases jR.1 ha with ha|ha;exact⟨a,ha,hb⟩;rw[fQ]at ha;subst ha;omega
theorem lj{h:Li}{v:Int}{t s:Li}(ht:t.length<=100000000)(hs:s.length<=100000000)(hr:∀l∈t,in64 l):aT h v t s=some (th h v t s):=by
 rw[aT.eq,pK,aj,cn];unfold th;by_cases h1:vD h;have hl:=h1.len;rw[aa h1,aa rfl,aa h1,cU (by omega) (by omega) hr,aj,cn];by_cases h2:bZ v t s;have hv:=h2.vars;rw[aa h2,aa rfl,aa h2];have hw:wrap .i64 (v+1)=v+1:=by rw[wr]<;>omega
 rw[hw,kV (by omega) (by omega),aj,aa rfl];obtain⟨o',e1,e2,e3⟩:=aT.loop0 (s:=s) (h:=h) hv h2.lits ht (by omega) t.length 0 (List.replicate (v+1).toNat false) (by omega) (by rw[qz];omega) (fun k hk=>by rw[qz]at hk;rw[Kt,aa hk];simp)
 rw[show((0:Nat):Int)=0 from rfl]at e1;rw[e1,aT.loop1 hv e2 e3 (h.length+1) h1 (by omega)];rw[ab h2,ab (by omega),ab h2];rw[ab h1,ab (by omega),ab h1]
def cM(n:Nat):Li:=(List.range n).map fun i:Nat=>(i:Int)+1
theorem tP{n:Nat}:cM (n+1)=cM n++[(n:Int)+1]:=by unfold cM;rw[NZ,Il];rfl
theorem jB{n:Nat}:(cM n).length=n:=by unfold cM;rw[pH,List.length_range]
theorem zD{n i:Nat}(hi:i<n):gd (cM n) i=(i:Int)+1:=by rw[mg (by rw[jB];exact hi)];simp[cM]
theorem fN{n:Nat}{x:Int}:x∈cM n↔1<=x/\x<=n:=by unfold cM;rw[jC];constructor;rintro⟨i,hi,rfl⟩;rw[yC]at hi;omega;intro h;exact⟨(x-1).toNat,yC.2 (by omega),by omega⟩
theorem dJ{h:Li}(k:vD h)(hne:h≠[]){y:Int}:y∈popped h↔y∈h/\y≠gd h 0:=by have hp:=pf hne;have hd:=zI.1 (hp.nodup_iff.2 k.nodup);rw[<-hp.mem_iff,eR];constructor;intro hy;exact⟨.inr hy,fun e=>hd.1 (e▸hy)⟩;rintro⟨hy|hy,hn⟩;exact absurd hy hn;exact hy
theorem qL{v:Int}{t:Li}:∀(n:Nat) {h:Li},vD h->h.length<n->((∀x∈h,¬free v t x)/\po v t n h=(0,[],6)) \/
  ∃m r,po v t n h=(m,r,0)/\vD r/\m∈h/\free v t m/\(∀x∈h,free v t x->m<=x)/\(∀x∈h,x∈r↔m<x)/\∀x∈r,x∈h
 |0,h,k,hn=>by omega
 |n+1,h,k,hn=>by
  simp only[po];by_cases c1:h.length=0;rw[aa c1];rw[PW]at c1;subst c1;exact .inl ⟨by simp,rfl⟩;have hne:=ne_nil c1;have h0:0<h.length:=by omega
  rw[ab c1];by_cases c2:free v t (gd h 0);rw[aa c2];refine .inr ⟨_,_,rfl,k.popped hne,CA h0,c2,fun x hx _=>k.least hx,fun x hx=>?_,fun x hx=>((dJ k hne).1 hx).1⟩;rw[dJ k hne];have:=k.least hx;exact⟨fun h=>by have:=h.2;omega,fun h=>⟨hx,by omega⟩⟩;rw[ab c2];have hpl:=mB (h:=h);rcases qL n (k.popped hne) (by omega) with⟨h1,h2⟩|⟨m,r,h1,h2,h3,h4,h5,h6,h7⟩;refine .inl ⟨fun x hx hf=>?_,h2⟩;by_cases e:x=gd h 0;exact c2 (e▸hf);exact h1 x ((dJ k hne).2 ⟨hx,e⟩) hf;refine .inr ⟨m,r,h1,h2,((dJ k hne).1 h3).1,h4,fun x hx hf=>?_,fun x hx=>?_,fun x hx=>((dJ k hne).1 (h7 x hx)).1⟩;by_cases e:x=gd h 0;exact absurd (e▸hf) c2;exact h5 x ((dJ k hne).2 ⟨hx,e⟩) hf;by_cases e:x=gd h 0;have hm:=(dJ k hne).1 h3;have:=k.least hm.1;have hnr:x∉r:=fun hr=>((dJ k hne).1 (h7 x hr)).2 e;exact⟨fun hr=>absurd hr hnr,fun hlt=>by omega⟩;exact h6 x ((dJ k hne).2 ⟨hx,e⟩)
section
abbrev eL(f:Int->Int)(c:Li)(k:Int):Nat:=(c.filter fun l=>decide (k<=f l)).length
def oX(f:Int->Int)(c:Li):Nat->Nat
 |0=>0
 |k+1=>if eL f c ((k+1:Nat):Int)<2 then oX f c k else k+1
def ri(f:Int->Int)(to:Int):Li->Int->Int
 |[],lit=>lit
 |l::r,lit=>ri f to r (if f l>to then l else lit)
theorem Bx(f:Int->Int)(c:Li):∀n,oX f c n<=n
 |0=>dD _
 |n+1=>by unfold oX;split;have:=Bx f c n;omega;exact dD _
theorem yq(f:Int->Int)(c:Li):∀n,oX f c n=0\/2<=eL f c (oX f c n)
 |0=>.inl rfl
 |n+1=>by unfold oX;split;exact yq f c n;rename_i h;exact .inr (by omega)
theorem yr(f:Int->Int)(c:Li):∀n:Nat,(∀l∈c,f l<=(n:Int))->eL f c ((oX f c n:Int)+1)<2
 |0,h=>by
  have:eL f c (((0:Nat):Int)+1)=0:=by unfold eL;rw[PW,ND];intro l hl hd;have h1:=h l hl;have h2:=uW hd;omega
  unfold oX;omega
 |n+1,h=>by
  unfold oX;by_cases hc:eL f c ((n+1:Nat):Int)<2;rw[aa hc];have:∀k:Nat,k<=n->(∀j:Nat,k<j->j<=n+1->eL f c (j:Int)<2)->eL f c ((oX f c k:Int)+1)<2:=by
   intro k
   induction k with
   |zero=>intro hk hj;unfold oX;exact hj 1 (by omega) (by omega)
   |succ k ih=>intro hk hj;unfold oX;by_cases hc2:eL f c ((k+1:Nat):Int)<2;rw[aa hc2];refine ih (by omega) (fun j h1 h2=>?_);by_cases he:j=k+1;subst he;exact hc2;exact hj j (by omega) h2;rw[ab hc2];exact hj (k+2) (by omega) (by omega)
  exact this n (dD _) (fun j h1 h2=>by
   have:j=n+1:=by omega
   subst this;exact hc)
  rw[ab hc];have:eL f c (((n+1:Nat):Int)+1)=0:=by unfold eL;rw[PW,ND];intro l hl hd;have h1:=h l hl;have h2:=uW hd;omega
  omega
theorem zy{f:Int->Int}{c:Li}{k x y:Int}(h:eL f c k<2)(hx:x∈c)(hy:y∈c)(h1:k<=f x)(h2:k<=f y):x=y:=by
 unfold eL at h;have mx:x∈c.filter fun l=>decide (k<=f l):=p6.2 ⟨hx,kp h1⟩;have my:y∈c.filter fun l=>decide (k<=f l):=p6.2 ⟨hy,kp h2⟩;generalize c.filter (fun l=>decide (k<=f l))=L at h mx my
 match L,h with
 |[],_=>cases mx
 |[a],_=>rw[fQ]at mx my;rw[mx,my]
 |a::b::r,h=>simp only[pI]at h;omega
theorem mG(f:Int->Int)(to:Int):∀(c:Li) (lit:Int),(ri f to c lit=lit/\∀l∈c,f l<=to)\/(ri f to c lit∈c/\to<f (ri f to c lit))
 |[],lit=>.inl ⟨rfl,by simp⟩
 |a::r,lit=>by simp only[ri];by_cases h:f a>to;rw[aa h];rcases mG f to r a with⟨h1,h2⟩|⟨h1,h2⟩;rw[h1];exact .inr ⟨ix ..,h⟩;exact .inr ⟨jI _ h1,h2⟩;rw[ab h];rcases mG f to r lit with⟨h1,h2⟩|⟨h1,h2⟩;refine .inl ⟨h1,fun l hl=>?_⟩;rcases eR.1 hl with rfl|hl;omega;exact h2 l hl;exact .inr ⟨jI _ h1,h2⟩
theorem vQ{f:Int->Int}{c:Li}{n:Nat}(hf:∀l∈c,f l<=(n:Int))(h0:∀l∈c,l≠0):
  (ri f (oX f c n) c 0=0/\∀l∈c,f l<=(oX f c n:Int)) \/
   (ri f (oX f c n) c 0∈c/\(oX f c n:Int)<f (ri f (oX f c n) c 0)/\∀l∈c,l≠ri f (oX f c n) c 0->f l<=(oX f c n:Int)):=by
 rcases mG f (oX f c n) c 0 with h|⟨h1,h2⟩;exact .inl h;refine .inr ⟨h1,h2,fun l hl hne=>?_⟩;apply og;intro hlt;exact hne (zy (yr f c n hf) hl h1 (by omega) (by omega))
def lU:Lp->Int
 |_::b::_=>b.2
 |_=>0
section sorted
variable {f:Int->Int} {c:Li}
theorem xF{M:Lp}(hp:M.Perm (c.map fun l=>(l,f l)))(k:Int):eL f c k=(M.filter fun p=>decide (k<=p.2)).length:=by rw[(hp.filter _).length_eq,List.filter_map,pH];rfl
theorem xD{M:Lp}(hp:M.Perm (c.map fun l=>(l,f l)))(hs:M.Pairwise fun x y=>y.2<=x.2){k:Int}(hk:0<k):2<=eL f c k↔k<=lU M:=by
 rw[xF hp]
 match M,hs with
 |[],_=>simp[lU];omega
 |[a],_=>simp only[lU,NB,List.filter_nil];constructor;intro h;split at h<;>simp at h;intro h;omega
 |a::b::r,hs=>
  rw[xg,xg]at hs;have hab:=hs.1 b (ix ..);simp only[lU,NB];constructor;intro h;apply og;intro hk2;have hr:r.filter (fun p=>decide (k<=p.2))=[]:=by rw[ND];intro p hp1 hd;have h1:=hs.2.1 p hp1;have h2:=uW hd;omega
  rw[hr,ab (fun e=>hk2 (uW e))]at h;split at h<;>simp at h;intro h;rw[aa (kp (Int.le_trans h hab)),aa (kp h)];simp only[pI];omega
theorem zV{M:Lp}(hp:M.Perm (c.map fun l=>(l,f l))){n:Int}(hn:0<=n)(hf:∀l∈c,0<=f l/\f l<=n):0<=lU M/\lU M<=n:=by
 match M,hp with
 |[],_=>exact⟨LK _,hn⟩
 |[a],_=>exact⟨LK _,hn⟩
 |a::b::r,hp=>have:b∈c.map fun l=>(l,f l):=hp.mem_iff.1 (by simp);obtain⟨l,hl,rfl⟩:=jC.1 this;exact hf l hl
theorem sT{M:Lp}(hp:M.Perm (c.map fun l=>(l,f l)))(hs:M.Pairwise fun x y=>y.2<=x.2){n:Nat}(hf:∀l∈c,0<=f l/\f l<=(n:Int)):(oX f c n:Int)=lU M:=by
 obtain⟨h0,hn⟩:=zV hp (by omega) hf;have:∀m:Nat,m<=n->(oX f c m:Int)=if lU M<=m then lU M else m:=by
  intro m
  induction m with
  |zero=>intro _;unfold oX;split<;>omega
  |succ m ih=>
   intro hm;have h2:=xD hp hs (k:=((m+1:Nat):Int)) (by omega);unfold oX;by_cases hc:eL f c ((m+1:Nat):Int)<2;rw[aa hc,ih (by omega)];have hlt:¬((m+1:Nat):Int)<=lU M:=fun h=>by have:=h2.2 h;omega
   rw[aa (by omega),aa (by omega)];rw[ab hc];have hle:=h2.1 (by omega);split<;>omega
 rw[this n (dD _),aa hn]
theorem xE{M:Lp}(hp:M.Perm (c.map fun l=>(l,f l)))(hs:M.Pairwise fun x y=>y.2<=x.2){n:Nat}(hf:∀l∈c,0<=f l/\f l<=(n:Int))(h0:∀l∈c,l≠0):
  ri f (oX f c n) c 0=match M with|[]=>0|a::r=>if a.2=lU (a::r) then 0 else a.1:=by
 have hto:=sT hp hs hf
 match M,hp,hs,hto with
 |[],hp,hs,hto=>
  have:c=[]:=by have:=hp.length_eq;simp at this;exact tS this.symm
  subst this;rfl
 |a::r,hp,hs,hto=>
  have ha:a∈c.map fun l=>(l,f l):=hp.mem_iff.1 (ix ..);obtain⟨x,hx,rfl⟩:=jC.1 ha;rw[xg]at hs;have hmax:∀l∈c,f l<=f x:=fun l hl=>by have:(l,f l)∈(x,f x)::r:=hp.mem_iff.2 (jC.2 ⟨l,hl,rfl⟩);rcases eR.1 this with h|h;rw[N3]at h;omega;exact hs.1 _ h
  have hge:lU ((x,f x)::r)<=f x:=by
   cases r with
   |nil=>exact(hf x hx).1
   |cons b r=>exact hs.1 b (ix ..)
  simp only;rcases vQ (fun l hl=>(hf l hl).2) h0 with⟨g1,g2⟩|⟨g1,g2,g3⟩;rw[g1];have:=g2 x hx;rw[aa (by omega)];have:=hmax _ g1;rw[ab (by omega)];apply og;intro hne;have:=g3 x hx (fun e=>hne e.symm);omega
end sorted
def lvl(t s:Li)(l:Int):Int:=(fg s (iU l 0 t):Int)
theorem oz{t s:Li}{l:Int}:0<=lvl t s l/\lvl t s l<=(s.length:Int):=by unfold lvl;have:=nL (s:=s) (i:=iU l 0 t);omega
def lu(v:Int)(t s c:Li):Int:=if bZ v t s then(if kd v c then(if(iF t c).1=0 then 0 else 2) else 8) else 8
abbrev ka(t s c:Li):Nat:=oX (lvl t s) c s.length
abbrev eD(t s c:Li):Int:=ri (lvl t s) (ka t s c) c 0
def ek(v:Int)(t s c:Li):(Int×Li×Li)×Int:=
 if lu v t s c=0 then(if eD t s c=0 then(qJ,6) else((v,(t.take (keep t s (ka t s c))++[eD t s c],s.take (ka t s c))),0)) else(qJ,lu v t s c)
theorem kd.short{v:Int}(hv:gD v){c:Li}(h:kd v c):c.length<=8002:=
 oh 8002 h.nodup fun x hx=>by have:=h.1 x hx;omega
structure eu(v:Int)(t s cl:Li):Prop where
 a:bZ v t s
 c:kd v cl
 z:∀l∈cl,cH t l=0
theorem tM{v:Int}{t s c:Li}(h:lu v t s c=0):eu v t s c:=by unfold lu at h;split at h;rename_i h1;split at h;rename_i h2;split at h;rename_i h3;exact⟨h1,h2,gq.1 h3⟩;omega;omega;omega
section
variable {v:Int} {t s c:Li}
theorem eu.idx(h:eu v t s c){l:Int}(hl:l∈c):¬iU l 0 t<0:=fun hn=>by have:=(tB (l:=l) (t:=t) (k:=0) (by omega)).1 hn;rw[h.z l hl]at this;omega
theorem eu.lev(h:eu v t s c){l:Int}(hl:l∈c):Fp v t s l=(lvl t s l,0):=by unfold Fp lvl;rw[aa h.a,aa (h.c.1 l hl),ab (h.idx hl)]
theorem eu.ne(h:eu v t s c):∀l∈c,l≠0:=fun l hl=>by have:=h.c.1 l hl;omega
theorem eu.rng(h:eu v t s c):∀l∈c,0<=lvl t s l/\lvl t s l<=(s.length:Int):=fun l _=>oz
theorem mE(h:eu v t s c){l:Int}(hl:l∈c){k:Nat}(hk:k<=s.length):cH (t.take (keep t s k)) l=if lvl t s l<=(k:Int) then 0 else 2:=by
 have hn:neg l∈t:=(cg h.a.dis).1 (h.z l hl);obtain⟨i,hi,he⟩:=Dj hn;have hx:iU l 0 t=(i:Int):=by rw[<-rf,<-he,uz i hi h.a.dis];omega
 have hkeep:=Cu h.a hk hi;have hlv:lvl t s l=(fg s (i:Int):Int):=by unfold lvl;rw[hx]
 rw[hlv];by_cases hc:fg s (i:Int)<=k;rw[aa (by omega)];have hik:=hkeep.1 hc;refine(cg (h.a.dis.sublist (Mp ..))).2 ?_;rw[<-he,LR];exact⟨i,by rw[lE];omega,Di⟩;rw[ab (by omega)];have hik:¬i<keep t s k:=fun q=>hc (hkeep.2 q);refine dN.2 fun a ha hae=>?_;obtain⟨j,hj,rfl⟩:=Dj ha;rw[lE]at hj;rw[Di]at hae;have:=xd.1 h.a.dis j i (by omega) hi (by omega);rw[he,cq]at this;exact this hae
theorem eu.in64(h:eu v t s c):(∀l∈t,in64 l)/\(∀l∈c,in64 l):=by have hv:=h.a.vars;exact⟨fun l hl=>by have:=h.a.lits l hl;omega,fun l hl=>by have:=h.c.1 l hl;omega⟩
theorem bS.loop(h:eu v t s c):∀(n i:Nat) {o:Lp},i+n=c.length->o.length<=i ->
  bS.l0 c (c.length:Int) (i:Int) v t s o=(lim ji (o++(c.drop i).map fun l=>(l,lvl t s l))).bind fun M=>some (M,0)
 |0,i,o,hi,ho=>by rw[bS.l0_eq,cd,ab (by omega),lD (by omega),JO,s7]
 |n+1,i,o,hi,ho=>by
  have hlt:i<c.length:=by omega
  have hm:=dW hlt;have hsh:=h.a.short;have hv:=h.a.vars;have hcs:=h.c.short hv;have hw:=wi i (by omega);rw[bS.l0_eq,cd,aa (by omega),bu hlt,aj,pO (by omega) (by omega) h.in64.1 (h.in64.2 _ hm),aj,h.lev hm];dsimp only;rw[cn,aa rfl,bH (by simp;omega),aj,hw,bS.loop h n (i+1) (by omega) (by simp;omega),drop_cons hlt,xe,Dw];rfl
abbrev LB(t s c:Li):Lp:=ji (c.map fun l=>(l,lvl t s l))
theorem q8(ht:t.length<=140737488351232)(hs:s.length<=140737488351232)(htr:∀l∈t,Go.Proofs.YtfjpfjnepdhnaaaGreat.in64 l)(hc:c.length<=140737488351232)(hcr:∀l∈c,Go.Proofs.YtfjpfjnepdhnaaaGreat.in64 l):
  bS v t s c=some (if lu v t s c=0 then(LB t s c,0) else([],lu v t s c)):=by
 rw[bS.eq,sh ht hs htr hc hcr,aj,cn,cn];by_cases h1:bZ v t s;by_cases h2:kd v c;have e:kJ v t s c=((iF t c).1,(iF t c).2,0):=by unfold kJ;rw[aa h1,aa h2]
 rw[e];dsimp only;rw[aa rfl];by_cases h3:(iF t c).1=0;have h0:lu v t s c=0:=by unfold lu;rw[aa h1,aa h2,aa h3]
 have F:=tM h0;have g:=bS.loop F c.length 0 (o:=[]) (by omega) (dD _);rw[show((0:Nat):Int)=0 from rfl,jH,Ac]at g;have hcs:=h2.short h1.vars;rw[aa h3,aa h0,g];unfold lim mR;rw[aa (by rw[pH];omega),aj];have h0:lu v t s c=2:=by unfold lu;rw[aa h1,aa h2,ab h3]
 rw[ab h3,h0,ab (by omega)];have e:kJ v t s c=(0,0,8):=by unfold kJ;rw[aa h1,ab h2]
 have h0:lu v t s c=8:=by unfold lu;rw[aa h1,ab h2]
 rw[e,h0];dsimp only;rw[ab (by omega),ab (by omega)];have e:kJ v t s c=(0,0,8):=by unfold kJ;rw[ab h1]
 have h0:lu v t s c=8:=by unfold lu;rw[ab h1]
 rw[e,h0];dsimp only;rw[ab (by omega),ab (by omega)]
theorem qZ{M:Lp}:fa M=some (lU M):=by
 rw[fa.eq,cd]
 match M with
 |[]=>rfl
 |[a]=>rfl
 |a::b::r=>rw[ab (by simp only[pI];omega)];rfl
theorem eu.spec(h:eu v t s c):(eD t s c=0/\∀l∈c,lvl t s l<=(ka t s c:Int)) \/
  (eD t s c∈c/\(ka t s c:Int)<lvl t s (eD t s c)/\∀l∈c,l≠eD t s c->lvl t s l<=(ka t s c:Int)):=vQ (fun l hl=>(h.rng l hl).2) h.ne
theorem eu.to(h:eu v t s c):ka t s c<=s.length:=Bx _ _ _
theorem eu.open_(h:eu v t s c)(hg:eD t s c≠0):eD t s c∈c/\cH (t.take (keep t s (ka t s c))) (eD t s c)=2:=by rcases h.spec with⟨h1,_⟩|⟨h1,h2,_⟩;exact absurd h1 hg;refine⟨h1,?_⟩;rw[mE h h1 h.to,ab (by omega)]
theorem eu.imply(h:eu v t s c)(hg:eD t s c≠0):BT v (t.take (keep t s (ka t s c))) (s.take (ka t s c)) (eD t s c) false=((v,(t.take (keep t s (ka t s c))++[eD t s c],s.take (ka t s c))),0):=by obtain⟨h1,h2⟩:=h.open_ hg;unfold BT;rw[aa (h.a.undone h.to),aa (h.c.1 _ h1),aa h2];rfl
theorem jT(ht:t.length<=140737488351232)(hs:s.length<=140737488351232)(htr:∀l∈t,Go.Proofs.YtfjpfjnepdhnaaaGreat.in64 l)(hc:c.length<=140737488351232)(hcr:∀l∈c,Go.Proofs.YtfjpfjnepdhnaaaGreat.in64 l):
  fb v t s c=some (ek v t s c):=by
 rw[fb.eq,q8 ht hs htr hc hcr,aj,cn];unfold ek;by_cases h0:lu v t s c=0
 .have F:=tM h0;have hv:=F.a.vars;have hsh:=F.a.short;obtain⟨p1,p2⟩:(LB t s c).Perm (c.map fun l=>(l,lvl t s l))/\(LB t s c).Pairwise (fun x y=>y.2<=x.2):=vm _;have hto:(ka t s c:Int)=lU (LB t s c):=sT p1 p2 F.rng;have hgv:eD t s c=match LB t s c with|[]=>0|a::r=>if a.2=lU (a::r) then 0 else a.1:=xE p1 p2 F.rng F.ne
  rw[aa h0,aa h0];dsimp only;rw[aa rfl,ce];generalize LB t s c=M at hto hgv p1 p2 ⊢
  match M,hto,hgv,p1 with
  |[],hto,hgv,p1=>rw[aa (by simp),aa hgv]
  |a::r,hto,hgv,p1=>
   simp only at hgv;have hz:aD (a::r) 0=some a:=rfl;have hz2:(a::r)[Int.toNat 0]?=some a:=rfl;rw[ab (by simp only[pI];omega),hz,aj,hz2,aj,qZ,aj,ce];by_cases h1:a.2=lU (a::r);rw[aa h1]at hgv;rw[aa h1,aa hgv];rw[ab h1]at hgv;have hne:eD t s c≠0:=fun e=>by rcases F.spec with⟨g1,g2⟩|⟨g1,g2,_⟩;have ha:a∈c.map fun l=>(l,lvl t s l):=p1.mem_iff.1 (ix ..);obtain⟨x,hx,rfl⟩:=jC.1 ha;have hx0:=F.ne x hx;rw[hgv]at e;exact hx0 e;exact F.ne _ g1 e
   have hu:=EG F.a (k:=(ka t s c:Int)) ⟨by omega,by have:=F.to;omega⟩;rw[jm]at hu;have hkl:=yV F.a (ka t s c);rw[ab h1,ab hne,aj,<-hto,rK (by omega) (by omega) htr,aj,hu];dsimp only;rw[cn,aa rfl,aj,aj,<-hgv,pP (by rw[lE];omega) (by rw[lE];omega) (fun l hl=>htr l (HQ hl)) (F.in64.2 _ (F.open_ hne).1),aj,F.imply hne]
 rw[ab h0,ab h0,ab h0]
end
end
section
variable {v:Int} {t s c:Li}
theorem eu.ask(h:eu v t s c):lu v t s c=0:=by unfold lu;rw[aa h.a,aa h.c,aa (gq.2 h.z)]
theorem eu.jb(h:eu v t s c)(hg:eD t s c≠0):ek v t s c=((v,(t.take (keep t s (ka t s c))++[eD t s c],s.take (ka t s c))),0):=by unfold ek;rw[aa h.ask,ab hg]
theorem eu.back(h:eu v t s c)(hg:eD t s c≠0):bZ v (t.take (keep t s (ka t s c))++[eD t s c]) (s.take (ka t s c)):=
 (h.a.undone h.to).push (h.c.1 _ (h.open_ hg).1) (h.open_ hg).2
theorem eu.unit(h:eu v t s c)(hg:eD t s c≠0){k:Nat}(hk:k<=s.length)(h1:ka t s c<=k)(h2:(k:Int)<lvl t s (eD t s c)):iF (t.take (keep t s k)) c=(3,eD t s c):=by rcases h.spec with⟨g1,_⟩|⟨g1,g2,g3⟩;exact absurd g1 hg;refine jM h.c g1 (by rw[mE h g1 hk,ab (by omega)]) (fun l hl hne=>?_);have:=g3 l hl hne;rw[mE h hl hk,aa (by omega)]
theorem eu.two(h:eu v t s c):ka t s c=0\/2<=eL (lvl t s) c (ka t s c:Int):=yq _ _ _
theorem eu.one(h:eu v t s c):eL (lvl t s) c ((ka t s c:Int)+1)<2:=yr _ _ _ fun l hl=>(h.rng l hl).2
end
theorem IX{f:Int->Int}{c:Li}(hd:c.Nodup){k:Int}(h:2<=eL f c k)(x:Int):∃y∈c,y≠x/\k<=f y:=by
 unfold eL at h;have hn:(c.filter fun l=>decide (k<=f l)).Nodup:=hd.filter _;have hm:∀y∈c.filter fun l=>decide (k<=f l),y∈c/\k<=f y:=fun y hy=>⟨(p6.1 hy).1,uW (p6.1 hy).2⟩;generalize c.filter (fun l=>decide (k<=f l))=L at h hn hm
 match L,h,hn,hm with
 |[],h,_,_=>simp at h
 |[a],h,_,_=>simp at h
 |a::b::r,_,hn,hm=>
  have hab:a≠b:=fun e=>by rw[zI]at hn;exact hn.1 (e▸ix ..)
  by_cases ha:a=x;exact⟨b,(hm b (by simp)).1,fun e=>hab (ha.trans e.symm),(hm b (by simp)).2⟩;exact⟨a,(hm a (by simp)).1,ha,(hm a (by simp)).2⟩
section
def dl(t s:Li)(j:Nat):Int:=neg (t.getD (s.getD j 0).toNat 0)
def top(J:Ln):Int:=match J.getLast? with|none=>0|some k=>(k:Int)+1
def Ct(t s:Li)(J:Ln):Int:=match J.getLast? with|none=>0|some k=>dl t s k
theorem yp{J:Ln}{k:Nat}:top (J++[k])=(k:Int)+1:=by unfold top;rw[List.getLast?_append];simp
theorem oD{t s:Li}{J:Ln}{k:Nat}:Ct t s (J++[k])=dl t s k:=by unfold Ct;rw[List.getLast?_append];simp
section
variable {v:Int} {t s:Li}
theorem uF(h:bZ v t s){j:Nat}(hj:j<s.length):∃i:Nat,∃hi:i<t.length,s[j]=(i:Int)/\dl t s j=neg t[i]:=by have hb:=h.bnd _ (dW hj);refine⟨s[j].toNat,by omega,by omega,?_⟩;unfold dl;rw[iB,iB,c6 hj];simp only[JL];rw[c6 (by omega)];rfl
theorem uD(h:bZ v t s){j:Nat}(hj:j<s.length):isLit v (dl t s j)/\cH t (dl t s j)=0:=by obtain⟨i,hi,_,he⟩:=uF h hj;have hm:=dW hi;rw[he];exact⟨nr (h.lits _ hm),(cg h.dis).2 (by rw[neg_neg];exact hm)⟩
theorem xY(h:bZ v t s){j:Nat}(hj:j<s.length):lvl t s (dl t s j)=(j:Int)+1:=by
 obtain⟨i,hi,hs,he⟩:=uF h hj;have hx:iU (dl t s j) 0 t=(i:Int):=by rw[he,rf,uz i hi h.dis];omega
 unfold lvl;rw[hx];have c1:=(fE (i:=(i:Int)) h.inc j hj).1 (by omega);have c2:fg s (i:Int)<=s.length:=nL;by_cases hlt:j+1<s.length;have h3:=xd.1 h.inc j (j+1) hj hlt (by omega);have c3:¬j+1<fg s (i:Int):=fun q=>by have:=(fE (i:=(i:Int)) h.inc (j+1) hlt).2 q;omega
 omega;omega
theorem uE(h:bZ v t s){j k:Nat}(hj:j<s.length)(hk:k<s.length)(he:dl t s j/2=dl t s k/2):j=k:=by
 obtain⟨i,hi,h1,e1⟩:=uF h hj;obtain⟨i',hi',h2,e2⟩:=uF h hk;rw[e1,e2,cq,cq]at he;have hii:i=i':=by apply og;intro hne;rcases iQ i i' with h3|h3;exact xd.1 h.dis i i' hi hi' h3 he;exact xd.1 h.dis i' i hi' hi (by omega) he.symm
 apply og;intro hne;rcases iQ j k with h3|h3;have:=xd.1 h.inc j k hj hk h3;omega;have:=xd.1 h.inc k j hk hj (by omega);omega
theorem B8{f:Int->Int}{c:Li}{k x y:Int}(hx:x∈c)(hy:y∈c)(hne:x≠y)(h1:k<=f x)(h2:k<=f y):2<=eL f c k:=by apply og;intro h;exact hne (zy (by omega) hx hy h1 h2)
theorem wg(h:bZ v t s){J:Ln}(hJ:J.Pairwise (· < ·))(hb:∀k∈J,k<s.length){S:Li}(hS:S.Pairwise (· < ·))(hm:∀y,y∈S↔y∈J.map (dl t s)):
  eu v t s S/\(J=[]->S=[])/\(J≠[]->S≠[]/\(ka t s S:Int)=top J.dropLast/\eD t s S=Ct t s J):=by
 have mem:∀{y},y∈S->∃k,k∈J/\y=dl t s k:=fun {y} hy=>by obtain⟨k,hk,e⟩:=jC.1 ((hm y).1 hy);exact⟨k,hk,e.symm⟩
 have F:eu v t s S:=by
  refine⟨h,⟨fun l hl=>?_,?_⟩,fun l hl=>?_⟩;obtain⟨k,hk,rfl⟩:=mem hl;exact(uD h (hb k hk)).1;refine OO (fun {a b} ha hb' hab=>?_) hS;obtain⟨j,hj,rfl⟩:=mem ha;obtain⟨k,hk,rfl⟩:=mem hb';apply og;intro hn;have:dl t s j/2=dl t s k/2:=by omega
  have:=uE h (hb j hj) (hb k hk) this;subst this;omega;obtain⟨k,hk,rfl⟩:=mem hl;exact(uD h (hb k hk)).2
 refine⟨F,fun e=>?_,fun hne=>?_⟩
 .subst e;cases S with
  |nil=>rfl
  |cons a r=>have:=(hm a).1 (ix ..);simp at this
 rcases JN J with rfl|⟨J',j,rfl⟩;exact absurd rfl hne;rw[JM]at hJ hb hm mem hne ⊢;rw[PV,oD];have hj:j<s.length:=hb j (by simp);have hxS:dl t s j∈S:=(hm _).2 (jC.2 ⟨j,by simp,rfl⟩);have hfx:=xY h hj;rw[LS]at hJ;have hlow:∀k∈J',k<j:=fun k hk=>hJ.2.2 k hk j (by simp);have oth:∀y∈S,y≠dl t s j->∃k∈J',y=dl t s k:=fun y hy hny=>by obtain⟨k,hk,rfl⟩:=mem hy;rcases jR.1 hk with hk|hk;exact⟨k,hk,rfl⟩;rw[fQ]at hk;subst hk;exact absurd rfl hny
 have htop0:0<=top J'/\top J'<=j/\∀k∈J',(k:Int)+1<=top J':=by rcases JN J' with rfl|⟨J2,k2,rfl⟩;exact⟨LK _,by simp[top],by simp⟩;rw[JM]at hJ hlow ⊢;rw[yp];have hJ1:=hJ.1;rw[LS]at hJ1;have:=hlow k2 (by simp);refine⟨by omega,by omega,fun k hk=>?_⟩;rcases jR.1 hk with hk|hk;have:=hJ1.2.2 k hk k2 (by simp);omega;rw[fQ]at hk;omega
 have hto:(ka t s S:Int)=top J':=by
  apply Int.le_antisymm;apply og;intro hgt;rcases F.two with w|w;omega;obtain⟨y,y1,y2,y3⟩:=IX F.c.nodup w (dl t s j);obtain⟨k,hk,rfl⟩:=oth y y1 y2;rw[xY h (hb k (by simp[hk]))]at y3;have:=htop0.2.2 k hk;omega;rcases JN J' with rfl|⟨J2,k2,rfl⟩;simp[top];rw[JM]at hJ hlow hb hm ⊢;rw[yp];have hk2:k2<s.length:=hb k2 (by simp);have hyS:dl t s k2∈S:=(hm _).2 (jC.2 ⟨k2,by simp,rfl⟩);have hfy:=xY h hk2;have hlt:=hlow k2 (by simp);have hxy:dl t s j≠dl t s k2:=fun e=>by have:=uE h hj hk2 (by rw[e]);omega
  apply og;intro hgt;have h2:=B8 (f:=lvl t s) (k:=(ka t s S:Int)+1) hxS hyS hxy (by omega) (by omega);have:=F.one;omega
 refine⟨(fun e=>by rw[e]at hxS;cases hxS),hto,?_⟩;rcases F.spec with⟨_,q⟩|⟨q1,q2,q3⟩;have:=q _ hxS;have:=htop0.2.1;omega;apply og;intro hne2;have:=q3 _ hxS (fun e=>hne2 e.symm);have:=htop0.2.1;omega
end
end
section
def rm(d:Int):Li->Li
 |[]=>[]
 |a::r=>if a=d then r else a::rm d r
theorem qv(d:Int):∀l,(rm d l).Sublist l
 |[]=>Nz _
 |a::r=>by unfold rm;split;exact List.sublist_cons_self ..;exact(qv d r).cons_cons _
theorem ud{d x:Int}:∀{l:Li},x∈l->x≠d->x∈rm d l
 |a::r,h,hne=>by unfold rm;rcases eR.1 h with rfl|h;rw[ab hne];exact ix ..;split;exact h;exact jI _ (ud h hne)
theorem dG.found{s:Li}{x:Int}(hn:s.length<=1000000):∀(n i:Nat),i+n=s.length->x∈s.drop i ->
  ∃k:Nat,ax.l0 s x (s.length:Int) (i:Int)=some (k:Int)/\k<s.length/\s.take k++s.drop (k+1)=s.take i++rm x (s.drop i)
 |0,i,hi,hm=>by rw[lD (by omega)]at hm;cases hm
 |n+1,i,hi,hm=>by
  have hlt:i<s.length:=by omega
  have hw:=wi i (by omega);rw[drop_cons hlt]at hm;rw[ax.l0_eq,cd,aa (by omega),bu hlt,aj,ce,hw,drop_cons hlt];unfold rm;by_cases h:x=s[i];rw[aa h,aa h.symm];exact⟨i,rfl,hlt,rfl⟩;rw[ab h,ab (fun e=>h e.symm)];obtain⟨k,e1,e2,e3⟩:=dG.found hn n (i+1) (by omega) (by rcases eR.1 hm with hm|hm;exact absurd hm h;exact hm)
  refine⟨k,e1,e2,?_⟩;rw[e3,BP,c6 hlt,Dw];rfl
def shr(v:Int)(L:Ll):Li->Li->Li
 |[],o=>o
 |d::r,o=>shr v L r (if c8 v L (rm d o) then rm d o else o)
theorem lI{v:Int}{L:Ll}:∀(r o:Li),(shr v L r o).Sublist o
 |[],o=>Nz _
 |d::r,o=>by unfold shr;split;exact(lI r _).trans (qv d o);exact lI r o
theorem uk{v:Int}{D o:Li}(h:bZ v D [])(ho:o.Sublist D):bZ v o [] where
 vars:=h.vars
 lits:=fun l hl=>h.lits l (ho.subset hl)
 dis:=h.dis.sublist ho
 inc:=List.Pairwise.nil
 bnd:=by simp
section
variable {v:Int} {L:Ll} {D:Li}
theorem iM{t:Li}(ht:bZ v t [])(hL:dM v L)(hn:L.length<=20000):dy v L t=some (c8 v L t):=by have hv:=ht.vars;have hs:=ht.short;have hr:∀c∈L,c.length<=140737488351232/\∀x∈c,in64 x:=fun c hc=>⟨by have:=(hL c hc).len hv;omega,fun x hx=>jr hv ((hL c hc).1 x hx)⟩;rw[dy.eq,gp (by omega) (by simp) (fun l hl=>jr hv (ht.lits l hl)) (by omega) hr,aj,EV ht hL hn];rfl
theorem qX(ht:bZ v D [])(hL:dM v L)(hn:L.length<=20000):bR v L D=some 0:=by have hv:=ht.vars;have hs:=ht.short;have hlc:=bR.loop hv hL (by omega) L.length 0 (by omega);rw[show((0:Nat):Int)=0 from rfl]at hlc;rw[bR.eq,cd,ab (by omega),cd,ab (by omega),cU (by omega) (by simp) (fun l hl=>jr hv (ht.lits l hl)),aj,aa ht,cn,aa rfl,cd,ab (by omega),hlc]
theorem aF.loop0(hD:bZ v D [])(hL:dM v L)(hn:L.length<=20000):∀(n i:Nat) {o:Li},i+n=D.length->o.Sublist D->(∀x∈D.drop i,x∈o) ->
  aF.l0 v L D (D.length:Int) (i:Int) o=aF.l1 ((shr v L (D.drop i) o).length:Int) 0 [] (shr v L (D.drop i) o)
 |0,i,o,hi,ho,hm=>by rw[aF.l0_eq,cd,ab (by omega),lD (by omega)];rfl
 |n+1,i,o,hi,ho,hm=>by
  have hlt:i<D.length:=by omega
  have hv:=hD.vars;have hs:=hD.short;have hol:=ho.length_le;have hw:=wi i (by omega);rw[drop_cons hlt]at hm ⊢;have hd:D[i]∈o:=hm _ (ix ..);obtain⟨k,e1,e2,e3⟩:=dG.found (s:=o) (x:=D[i]) (by omega) o.length 0 (by omega) (by rw[jH];exact hd);rw[show((0:Nat):Int)=0 from rfl]at e1;rw[JI,jH,Ac]at e3;have hwk:=wi k (by omega);have hcut:tG o (k:Int) ((k+1:Nat):Int)=some (rm D[i] o):=by unfold tG mR;rw[aa ⟨by omega,by omega,by omega,by omega⟩,jm,jm,e3]
  have hsub:(rm D[i] o).Sublist D:=(qv _ o).trans ho;have hnd:=hD.nodup;rw[<-List.take_append_drop i D,D3,drop_cons hlt,zI]at hnd;rw[aF.l0_eq,cd,aa (by omega),bu hlt,aj,ax.eq,e1,aj,dU (by omega),aj,hwk,hcut,aj,iM (uk hD hsub) hL hn,aj,hw];unfold shr;cases hcf:c8 v L (rm D[i] o) with
  |true=>rw[ct];exact aF.loop0 hD hL hn n (i+1) (by omega) hsub (fun x hx=>ud (hm x (jI _ hx)) (fun e=>hnd.2.1.1 (e▸hx)))
  |false=>rw[cf];exact aF.loop0 hD hL hn n (i+1) (by omega) ho (fun x hx=>hm x (jI _ hx))
theorem aF.loop1{o:Li}(hl:∀x∈o,0<=x/\x<=100000)(hn:o.length<=1000000):∀(n i:Nat) {out:Li},i+n=o.length->out.length<=i ->
  aF.l1 (o.length:Int) (i:Int) out o=some (gQ (out++(o.drop i).map neg),0)
 |0,i,out,hi,ho=>by rw[aF.l1_eq,cd,ab (by omega),lD (by omega),JO,s7];unfold lim mR;rw[aa (by omega),aj]
 |n+1,i,out,hi,ho=>by
  have hlt:i<o.length:=by omega
  have hx:=hl _ (dW hlt);have hw:=wi i (by omega);rw[aF.l1_eq,cd,aa (by omega),bu hlt,aj,jm,c6 hlt,aj,eM hx.1 (by omega),bH (by simp;omega),aj,hw,aF.loop1 hl hn n (i+1) (by omega) (by simp;omega),drop_cons hlt,
   xe,Dw]
  rfl
def cj(v:Int)(L:Ll)(D:Li):Li:=gQ ((shr v L D D).map neg)
theorem dh(hD:bZ v D [])(hL:dM v L)(hn:L.length<=20000)(hc:c8 v L D=true):aF v L D=some (cj v L D,0):=by have hv:=hD.vars;have hs:=hD.short;have hsub:=lI (v:=v) (L:=L) D D;have g:=aF.loop0 hD hL hn D.length 0 (o:=D) (by omega) (Nz _) (fun x hx=>by rwa [jH]at hx);rw[show((0:Nat):Int)=0 from rfl,jH]at g;have g1:=aF.loop1 (o:=shr v L D D) (fun x hx=>by have:=hD.lits x (hsub.subset hx);omega) (by have:=hsub.length_le;omega) (shr v L D D).length 0 (out:=[]) (by omega) (dD _);rw[show((0:Nat):Int)=0 from rfl,jH,Ac]at g1;rw[aF.eq,qX hD hL hn,aj,cn,aa rfl,iM hD hL hn,aj,hc,iA,ct,dU (by omega),aj,g,g1];rfl
end
end
section
def dc(t s:Li)(j:Nat):Int:=t.getD (s.getD j 0).toNat 0
def bP(t s:Li):Li:=(List.range s.length).map (dc t s)
section
variable {v:Int} {t s:Li} {L:Ll}
theorem zw(h:bZ v t s){j:Nat}(hj:j<s.length):∃i:Nat,∃hi:i<t.length,s[j]=(i:Int)/\dc t s j=t[i]:=by have hb:=h.bnd _ (dW hj);refine⟨s[j].toNat,by omega,by omega,?_⟩;unfold dc;rw[iB,iB,c6 hj];simp only[JL];rw[c6 (by omega)];rfl
theorem Ci{j:Nat}:neg (dc t s j)=dl t s j:=rfl
theorem gv(h:bZ v t s):bZ v (bP t s) [] where
 vars:=h.vars
 lits:=fun l hl=>by obtain⟨j,hj,rfl⟩:=jC.1 hl;obtain⟨i,hi,_,e⟩:=zw h (yC.1 hj);rw[e];exact h.lits _ (dW hi)
 dis:=by unfold bP;rw[D1];refine OO (fun {j k} hj hk hlt he=>?_) NF;have:=uE h (yC.1 hj) (yC.1 hk) (by rw[<-Ci,<-Ci,cq,cq];exact he);omega
 inc:=List.Pairwise.nil
 bnd:=by simp
theorem vG(h:bZ v t s):∃J:Ln,J.Pairwise (· < ·)/\(∀k∈J,k<s.length)/\(cj v L (bP t s)).Pairwise (· < ·)/\(cj v L (bP t s)).length<=s.length/\∀y,y∈cj v L (bP t s)↔y∈J.map (dl t s):=by
 have hsub:=lI (v:=v) (L:=L) (bP t s) (bP t s);unfold bP at hsub;obtain⟨J,hJ,hJe⟩:=List.sublist_map_iff.1 hsub;have hlt:∀k∈J,k<s.length:=fun k hk=>yC.1 (hJ.subset hk);have hp:J.Pairwise (· < ·):=NF.sublist hJ;have hmap:(shr v L (bP t s) (bP t s)).map neg=J.map (dl t s):=by show(shr v L ((List.range s.length).map (dc t s)) ((List.range s.length).map (dc t s))).map neg=_;rw[hJe,List.map_map];rfl
 have hnd:(J.map (dl t s)).Nodup:=by rw[List.Nodup,D1];refine OO (fun {j k} hj hk hl he=>?_) hp;have:=uE h (hlt j hj) (hlt k hk) (by rw[he]);omega
 obtain⟨p1,p2⟩:=eQ (J.map (dl t s));have hC:cj v L (bP t s)=gQ (J.map (dl t s)):=by unfold cj;rw[hmap]
 refine⟨J,hp,hlt,?_,?_,fun y=>by rw[hC,p1.mem_iff]⟩;rw[hC];have hn:=p1.nodup_iff.2 hnd;rw[List.Nodup]at hn;exact(p2.and hn).imp fun h=>by have:=h.1;have:=h.2;omega
 .rw[hC,p1.length_eq,pH];have:=hJ.length_le
  rwa [List.length_range]at this
theorem Db{n:Nat}(hn:n<=4000):vD (cM n):=by
 refine⟨by rw[jB];omega,fun x hx=>by have:=fN.1 hx;omega,?_,fun i hi h0=>?_⟩;unfold cM;rw[List.Nodup,D1];exact NF.imp fun hab e=>by omega
 rw[jB]at hi;rw[zD hi,zD (by omega)];omega
theorem nE{x:Int}(hx:x<=v):free v t x↔cH t (2*x)=2:=by rw[dN];constructor;intro h a ha he;exact h.2 a ha (by omega);intro h;exact⟨hx,fun a ha he=>h a ha (by omega)⟩
end
end
section
def Nw(L:Ll)(Y:Li):Prop:=∀c∈L,(iF Y c).1≠0/\(iF Y c).1≠3
def mK(v:Int)(L:Ll)(t s:Li):Prop:=
 ∀k,k<=s.length->∀Y,bZ v Y []->Nw L Y->(∀j,j<k->dc t s j∈Y)->∀l∈t.take (keep t s k),l∈Y
def AN(v:Int)(t s:Li):Prop:=
 ∀j,j<s.length->∃x,dc t s j=2*x+1/\1<=x/\x<=v/\∀y,1<=y->y<x->cH (t.take (keep t s j)) (2*y)≠2
theorem eC{t s:Li}{k:Nat}(h:k<s.length):keep t s k=s[k].toNat:=by unfold keep;rw[c6 h]
theorem fD{t s:Li}:keep t s s.length=t.length:=by unfold keep;rw[qA (dD _)]
section
variable {v:Int} {L:Ll} {t s:Li}
theorem dz(h:bZ v t s){k:Nat}(hk:k<s.length):keep t s k<t.length:=by rw[eC hk];have:=h.bnd _ (dW hk);omega
theorem gx(h:bZ v t s){j k:Nat}(hj:j<k)(hk:k<s.length):keep t s j<keep t s k:=by rw[eC hk,eC (by omega)];have h1:=(xd.1 h.inc) j k (by omega) hk hj;have h2:=h.bnd _ (dW (show j<s.length by omega));omega
theorem nJ{j:Nat}(hj:j<s.length):dc t s j=t.getD (keep t s j) 0:=by unfold dc;rw[eC hj,iB (l:=s),c6 hj];rfl
theorem dQ{t' s':Li}{k:Nat}(hk:k<s.length)(hk':k<s'.length)(he:s'[k]=s[k]):keep t' s' k=keep t s k:=by rw[eC hk,eC hk',he]
theorem gm(h:bZ v t s){t' s':Li}{k:Nat}(hk:k<s.length)(hk':k<s'.length)(he:s'[k]=s[k]){m:Nat}(ht:t'.take m=t.take m)(hm:keep t s k<m):dc t' s' k=dc t s k:=by
 rw[nJ hk,nJ hk',dQ hk hk' he,iB,iB];have h1:(t'.take m)[keep t s k]?=(t.take m)[keep t s k]?:=by rw[ht]
 rw[D5,D5,aa hm,aa hm]at h1;rw[h1]
theorem gK{t t':Li}{m n:Nat}(h:t'.take m=t.take m)(hn:n<=m):t'.take n=t.take n:=by
 have:=mM (List.take n) h
 rwa [NA,NA,Pk hn]at this
theorem mK.empty(hv:gD v):mK v L [] []:=fun k hk Y _ _ _ l hl=>by simp at hl
theorem AN.empty:AN v [] []:=fun j hj=>by simp at hj
theorem mK.prop(hL:dM v L)(h:bZ v t s)(hl:mK v L t s){n:Nat}:mK v L (af L n t).1 s:=by
 obtain⟨hA,u,hu⟩:=dg hL n h;intro k hk Y hY hc hd l hl';rcases iQ k s.length with hlt|hge;have ht:(af L n t).1.take t.length=t.take t.length:=by rw[hu];simp
 have hkb:=dz h hlt;have e:=dQ (t:=t) (t':=(af L n t).1) hlt hlt rfl;rw[e,gK ht (by omega)]at hl';refine hl k hk Y hY hc (fun j hj=>?_) l hl';rw[<-gm h (t':=(af L n t).1) (show j<s.length by omega) (by omega) rfl ht (dz h (by omega))];exact hd j hj;have hk':k=s.length:=by omega
 subst hk';rw[fD,xM]at hl';refine(kT hL hY hc n h fun l hl2=>?_).2 l hl';have ht:(af L n t).1.take t.length=t.take t.length:=by rw[hu];simp
 refine hl s.length (dD _) Y hY hc (fun j hj=>?_) l (by rw[fD,xM];exact hl2);rw[<-gm h (t':=(af L n t).1) hj hj rfl ht (dz h hj)];exact hd j hj
theorem AN.prop(hL:dM v L)(h:bZ v t s)(hd:AN v t s){n:Nat}:AN v (af L n t).1 s:=by
 obtain⟨hA,u,hu⟩:=dg hL n h;intro j hj;have ht:(af L n t).1.take t.length=t.take t.length:=by rw[hu];simp
 have hkb:=dz h hj;obtain⟨x,h1,h2,h3,h4⟩:=hd j hj;refine⟨x,by rw[gm h hj hj rfl ht hkb];exact h1,h2,h3,?_⟩;rw[dQ (t:=t) hj hj rfl,gK ht (by omega)];exact h4
theorem mK.dec(h:bZ v t s)(hl:mK v L t s)(x:Int):mK v L (t++[x]) (s++[(t.length:Int)]):=by
 intro k hk Y hY hc hd l hl';have ht:(t++[x]).take t.length=t.take t.length:=by simp
 have hs:∀j (hj:j<s.length),(s++[(t.length:Int)])[j]'(by simp;omega)=s[j]:=fun j hj=>OQ hj;have hdc:∀j,j<s.length->dc (t++[x]) (s++[(t.length:Int)]) j=dc t s j:=fun j hj=>gm h hj (by simp;omega) (hs j hj) ht (dz h hj);rw[ey,gC]at hk;have hlast:keep (t++[x]) (s++[(t.length:Int)]) s.length=t.length:=by rw[eC (by simp)];simp
 rcases iQ k s.length with hlt|hge;have hkb:=dz h hlt;rw[dQ (t:=t) hlt (by simp;omega) (hs k hlt),gK ht (by omega)]at hl';exact hl k (by omega) Y hY hc (fun j hj=>by rw[<-hdc j (by omega)];exact hd j hj) l hl';have old:s.length<=k->∀l∈t,l∈Y:=fun hk2 l hl2=>hl s.length (dD _) Y hY hc (fun j hj=>by rw[<-hdc j hj];exact hd j (by omega)) l (by rw[fD,xM];exact hl2);by_cases hk':k=s.length;subst hk';rw[hlast,ht,xM]at hl';exact old (dD _) l hl';have hk2:k=(s++[(t.length:Int)]).length:=by simp;omega
 rw[hk2,fD,xM]at hl';rcases jR.1 hl' with hl'|hl';exact old hge l hl';rw[fQ]at hl';subst hl';have:=hd s.length (by omega);rw[nJ (by simp),hlast]at this;simpa using this
theorem AN.dec(h:bZ v t s)(hd:AN v t s){x:Int}(h1:1<=x)(h2:x<=v)(h3:∀y,1<=y->y<x->cH t (2*y)≠2):AN v (t++[2*x+1]) (s++[(t.length:Int)]):=by
 intro j hj;have ht:(t++[2*x+1]).take t.length=t.take t.length:=by simp
 rw[ey,gC]at hj;have hlast:keep (t++[2*x+1]) (s++[(t.length:Int)]) s.length=t.length:=by rw[eC (by simp)];simp
 rcases iQ j s.length with hlt|hge;have hs:(s++[(t.length:Int)])[j]'(by simp;omega)=s[j]:=OQ hlt;have hkb:=dz h hlt;obtain⟨y,g1,g2,g3,g4⟩:=hd j hlt;refine⟨y,by rw[gm h hlt (by simp;omega) hs ht hkb];exact g1,g2,g3,?_⟩;rw[dQ (t:=t) hlt (by simp;omega) hs,gK ht (by omega)];exact g4;have:j=s.length:=by omega
 subst this;refine⟨x,?_,h1,h2,?_⟩;rw[nJ (by simp),hlast];simp;rw[hlast,ht,xM];exact h3
theorem mK.back(h:bZ v t s)(hl:mK v L t s){T:Nat}(hT:T<s.length){c:Li}(hc:kd v c){g:Int}(hg:iF (t.take (keep t s T)) c=(3,g)):mK v (L++[c]) (t.take (keep t s T)++[g]) (s.take T):=by
 intro k hk Y hY hcl hd l hl';have hkb:=dz h hT;have htl:(t.take (keep t s T)).length=keep t s T:=by rw[lE];omega
 have ht:(t.take (keep t s T)++[g]).take (keep t s T)=t.take (keep t s T):=by rw[N4 (by omega),NA,Nat.min_self]
 have hsl:(s.take T).length=T:=by rw[lE];omega
 rw[hsl]at hk;have hs:∀j (hj:j<T),(s.take T)[j]'(by omega)=s[j]'(by omega):=fun j hj=>by rw[Di]
 have hdc:∀j,j<T->dc (t.take (keep t s T)++[g]) (s.take T) j=dc t s j:=fun j hj=>gm h (by omega) (by omega) (hs j hj) ht (gx h hj hT);have old:∀k,k<=T->(∀j,j<k->dc (t.take (keep t s T)++[g]) (s.take T) j∈Y)->∀l∈t.take (keep t s k),l∈Y:=fun k hk hd l hl2=>
  hl k (by omega) Y hY (fun d hd=>hcl d (uf _ hd)) (fun j hj=>by rw[<-hdc j (by omega)];exact hd j hj) l hl2
 rcases iQ k T with hlt|hge;rw[dQ (t:=t) (show k<s.length by omega) (by omega) (hs k hlt),gK ht (by have:=gx h hlt hT;omega)]at hl';exact old k hk hd l hl';have hk':k=(s.take T).length:=by omega
 rw[hk',fD,xM]at hl';have pre:=old T (dD _) (fun j hj=>hd j (by omega));rcases jR.1 hl' with hl'|hl';exact pre l hl';rw[fQ]at hl';subst hl';have hu:=h.undone (k:=T) (by omega);have h3:(iF (t.take (keep t s T)) c).1=3:=by rw[hg]
 obtain⟨q1,q2,q3⟩:=n9 h3;rw[hg]at q1 q2 q3;obtain⟨n0,n3⟩:=hcl c (D4 _ (fQ.2 rfl));have hz:∀x∈c,x≠l->cH Y x=0:=fun x hx hne=>(uw hu hY pre).1 (q3 x hx hne);rcases cQ Y l with h0|h0|h0;exfalso;refine n0 (gq.2 fun x hx=>?_);by_cases hxl:x=l;rw[hxl];exact h0;exact hz x hx hxl;exact(cy hY.dis).1 h0;exfalso;exact n3 (by rw[jM hc q1 h0 hz])
theorem AN.back(h:bZ v t s)(hd:AN v t s){T:Nat}(hT:T<s.length)(g:Int):AN v (t.take (keep t s T)++[g]) (s.take T):=by
 intro j hj;have hkb:=dz h hT;have ht:(t.take (keep t s T)++[g]).take (keep t s T)=t.take (keep t s T):=by rw[N4 (by rw[lE];omega),NA,Nat.min_self]
 have hsl:(s.take T).length=T:=by rw[lE];omega
 rw[hsl]at hj;have hs:(s.take T)[j]'(by omega)=s[j]'(by omega):=by rw[Di]
 obtain⟨x,h1,h2,h3,h4⟩:=hd j (by omega);refine⟨x,by rw[gm h (by omega) (by omega) hs ht (gx h hj hT)];exact h1,h2,h3,?_⟩;rw[dQ (t:=t) (show j<s.length by omega) (by omega) hs,gK ht (by have:=gx h hj hT;omega)];exact h4
end
def mes(V:Nat)(s:Li):Nat->Nat
 |0=>0
 |n+1=>mes V s n+if(n:Int)∈s then 0 else 2^(V-1-n)
theorem qP{V:Nat}{s:Li}{n:Nat}:∀{m:Nat},n<=m->mes V s n<=mes V s m
 |0,h=>by rw[Nat.le_zero.1 h];exact dD _
 |m+1,h=>by
  rcases iQ n (m+1) with h1|h1;have:=qP (V:=V) (s:=s) (n:=n) (m:=m) (by omega);simp only[mes];omega;have:n=m+1:=by omega
  rw[this];exact dD _
theorem ov{V:Nat}{s s':Li}:∀{n:Nat},(∀i:Nat,i<n->((i:Int)∈s↔(i:Int)∈s'))->mes V s n=mes V s' n
 |0,_=>rfl
 |n+1,h=>by simp only[mes];rw[ov fun i hi=>h i (by omega)];by_cases h1:(n:Int)∈s;rw[aa h1,aa ((h n (by omega)).1 h1)];rw[ab h1,ab (fun h2=>h1 ((h n (by omega)).2 h2))]
theorem uq{V:Nat}{s:Li}{n:Nat}:∀{m:Nat},n<=m->m<=V->mes V s m+2^(V-m)<=mes V s n+2^(V-n)
 |0,h,_=>by rw[Nat.le_zero.1 h];exact dD _
 |m+1,h,hm=>by
  rcases iQ n (m+1) with h1|h1;have ih:=uq (V:=V) (s:=s) (n:=n) (m:=m) (by omega) (by omega);have e:2^(V-m)=2^(V-(m+1))+2^(V-(m+1)):=by rw[show V-m=V-(m+1)+1 from by omega,Nat.pow_succ];omega
  have e2:V-1-m=V-(m+1):=by omega
  simp only[mes];rw[e2];generalize 2^(V-(m+1))=g at *;split<;>omega;have:n=m+1:=by omega
  rw[this];exact dD _
section
variable {v:Int} {t s:Li}
theorem ns(h:bZ v t s){T:Nat}(hT:T<s.length)(g:Int):mes v.toNat s t.length+1<=mes v.toNat (s.take T) (t.take (keep t s T)++[g]).length:=by
 have hsh:=h.short;have hkb:=dz h hT;have hv:=h.vars;have hl:(t.take (keep t s T)++[g]).length=keep t s T+1:=by rw[ey,lE,gC];omega
 have hlow:∀x∈s.take T,x<(keep t s T:Int):=fun x hx=>by obtain⟨j,hj,rfl⟩:=LR.1 hx;rw[lE]at hj;rw[Di];have:=gx h (j:=j) (k:=T) (by omega) hT;rw[eC (show j<s.length by omega)]at this;have hb:=h.bnd _ (dW (show j<s.length by omega));omega
 have hmem:((keep t s T:Nat):Int)∈s:=by rw[eC hT];have hb:=h.bnd _ (dW hT);rw[Int.toNat_of_nonneg hb.1];exact dW hT
 have hnot:((keep t s T:Nat):Int)∉s.take T:=fun hx=>by have:=hlow _ hx;omega
 have hcong:mes v.toNat s (keep t s T)=mes v.toNat (s.take T) (keep t s T):=ov fun i hi=>by
  constructor;intro hx;obtain⟨j,hj,e⟩:=LR.1 hx;have hjT:j<T:=by
   apply og;intro hn;have hb:=h.bnd _ (dW hj);rcases iQ T j with h1|h1;have:=gx h h1 hj;rw[eC hj,e]at this;omega;have:j=T:=by omega
   subst this;rw[eC hj,e]at hi;omega
  exact LR.2 ⟨j,by rw[lE];omega,by rw[Di];exact e⟩;exact fun hx=>HQ hx
 rw[hl];have hb:=uq (V:=v.toNat) (s:=s) (n:=keep t s T+1) (m:=t.length) (by omega) (by omega);have hp:0<2^(v.toNat-t.length):=Nat.pow_pos (by omega);have e2:v.toNat-1-keep t s T=v.toNat-(keep t s T+1):=by omega
 simp only[mes]at hb ⊢;rw[aa hmem]at hb;rw[ab hnot,e2];omega
theorem yP(h:bZ v t s)(x:Int):mes v.toNat s t.length<=mes v.toNat (s++[(t.length:Int)]) (t++[x]).length:=by
 rw[ey,gC];simp only[mes];rw[ov (s:=s) (s':=s++[(t.length:Int)]) fun i hi=>⟨fun hx=>uf _ hx,fun hx=>by rcases jR.1 hx with h1|h1;exact h1;rw[fQ]at h1;omega⟩]
 omega
theorem iJ(h:bZ v t s):mes v.toNat s t.length+1<=2^v.toNat:=by have hsh:=h.short;have hv:=h.vars;have hb:=uq (V:=v.toNat) (s:=s) (n:=0) (m:=t.length) (by omega) (by omega);have hp:0<2^(v.toNat-t.length):=Nat.pow_pos (by omega);simp only[mes,Nat.sub_zero]at hb;omega
end
end
section
def lf(v:Int)(t:Li):Int:=((cM v.toNat).find? fun x=>decide (cH t (2*x)=2)).getD 0
theorem gO{v:Int}(hv:0<=v)(t:Li):(lf v t=0/\∀x,1<=x->x<=v->cH t (2*x)≠2) \/
  (1<=lf v t/\lf v t<=v/\cH t (2*lf v t)=2/\∀y,1<=y->y<lf v t->cH t (2*y)≠2):=by
 unfold lf;cases hf:(cM v.toNat).find? fun x=>decide (cH t (2*x)=2) with
 |none=>refine .inl ⟨rfl,fun x h1 h2 h3=>?_⟩;have:=List.find?_eq_none.1 hf x (fN.2 (by omega));simp[h3]at this
 |some b=>
  obtain⟨h1,i,hi,h2,h3⟩:=List.find?_eq_some_iff_getElem.1 hf;have hb:b∈cM v.toNat:=h2▸dW hi;have hb':=fN.1 hb;refine .inr ⟨hb'.1,by show b<=v;omega,by simpa using h1,fun y y1 y2 y3=>?_⟩;have e:∀j (hj:j<(cM v.toNat).length),(cM v.toNat)[j]=(j:Int)+1:=fun j hj=>by simp[cM]
  rw[e]at h2;have y2':y<b:=y2;rw[jB]at hi;have:=h3 (y.toNat-1) (by omega);rw[e,show((y.toNat-1:Nat):Int)+1=y from by omega]at this;simp[y3]at this
def xH(v:Int):Nat->Ll->Li->Li->Ll->Bool×Li×Ll×Nat
 |0,_,_,_,log=>(false,[],log,log.length)
 |n+1,L,t,s,log=>
  if 0<=(af L (v+1).toNat t).2 then
   if cj v L (bP (af L (v+1).toNat t).1 s)=[] then(false,[],log++[[]],log.length)
   else xH v n (L++[cj v L (bP (af L (v+1).toNat t).1 s)]) (ek v (af L (v+1).toNat t).1 s (cj v L (bP (af L (v+1).toNat t).1 s))).1.2.1
    (ek v (af L (v+1).toNat t).1 s (cj v L (bP (af L (v+1).toNat t).1 s))).1.2.2 (log++[cj v L (bP (af L (v+1).toNat t).1 s)])
  else if lf v (af L (v+1).toNat t).1=0 then(true,(af L (v+1).toNat t).1,log,log.length)
  else xH v n L ((af L (v+1).toNat t).1++[2*lf v (af L (v+1).toNat t).1+1]) (s++[((af L (v+1).toNat t).1.length:Int)]) log
theorem mY{v:Int}:∀(n:Nat) (L:Ll) (t s:Li) (log:Ll),log.length<=(xH v n L t s log).2.2.2
 |0,L,t,s,log=>dD _
 |n+1,L,t,s,log=>by unfold xH;split;split;exact dD _;refine kz ?_ (mY n _ _ _ _);simp;split;exact dD _;exact mY n _ _ _ _
theorem yb{v:Int}{L:Ll}(hL:dM v L){a b:Li}(ha:bZ v a [])(hb:bZ v b [])(h:∀x,x∈a↔x∈b):c8 v L a=c8 v L b:=by
 have one:∀{a b:Li},bZ v a []->bZ v b []->(∀x∈b,x∈a)->c8 v L a=false->c8 v L b=false:=by intro a b ha hb h hc;unfold c8 at hc ⊢;rw[Dv]at hc ⊢;obtain⟨hY,u,hu⟩:=dg hL (v+1).toNat ha;have:=(kT hL hY (eZ hL ha (by omega)) (v+1).toNat hb fun l hl=>by rw[hu];exact uf _ (h l hl)).1;omega
 cases h1:c8 v L a with
 |false=>exact(one ha hb (fun x hx=>(h x).2 hx) h1).symm
 |true=>
  cases h2:c8 v L b with
  |true=>rfl
  |false=>rw[one hb ha (fun x hx=>(h x).1 hx) h2]at h1;cases h1
theorem qp{v:Int}{L:Ll}:∀(r o:Li),c8 v L o=true->c8 v L (shr v L r o)=true
 |[],o,h=>h
 |d::r,o,h=>by unfold shr;split;rename_i h1;exact qp r _ h1;exact qp r _ h
theorem qU{v:Int}{L:Ll}(hL:dM v L){D:Li}(hD:bZ v D [])(hc:c8 v L D=true)(hC:kd v (cj v L D)):mh v L (cj v L D)=true:=by have h1:=qp D D hc;have hs:=lI (v:=v) (L:=L) D D;unfold mh;rw[<-h1];refine yb hL (yI hD.vars hC) (uk hD hs) fun x=>?_;obtain⟨p1,_⟩:=eQ ((shr v L D D).map neg);rw[jC];constructor;rintro⟨y,hy,rfl⟩;unfold cj at hy;rw[p1.mem_iff,jC]at hy;obtain⟨z,hz,rfl⟩:=hy;rw[neg_neg];exact hz;intro hx;exact⟨neg x,by unfold cj;rw[p1.mem_iff];exact PZ hx,neg_neg⟩
def jK(v:Int)(L0 log:Ll):Prop:=∀i (hi:i<log.length),mh v (L0++log.take i) log[i]=true
structure Inv(v:Int)(L0:Ll)(t s:Li)(log:Ll):Prop where
 ok:dM v (L0++log)
 a:bZ v t s
 led:mK v (L0++log) t s
 dec:AN v t s
 chain:jK v L0 log
 full:∀c∈log,c≠[]
 mes:log.length<=mes v.toNat s t.length
def ef(v:Int)(t s:Li):Nat:=(2^v.toNat-mes v.toNat s t.length)*(v.toNat+1)+(v.toNat-s.length)
theorem jK.snoc{v:Int}{L0 log:Ll}(h:jK v L0 log){c:Li}(hc:mh v (L0++log) c=true):jK v L0 (log++[c]):=by
 intro i hi;rw[ey,gC]at hi;rcases iQ i log.length with hlt|hge;rw[N4 (by omega),OQ hlt];exact h i hlt;have:i=log.length:=by omega
 subst this;simpa using hc
section
variable {v:Int} {L0:Ll} {t s:Li} {log:Ll}
theorem Inv.prop(h:Inv v L0 t s log):Inv v L0 (af (L0++log) (v+1).toNat t).1 s log/\ef v (af (L0++log) (v+1).toNat t).1 s<=ef v t s:=by obtain⟨hA,u,hu⟩:=dg h.ok (v+1).toNat h.a;have hle:YtfjpfjnepdhnaaaGreat.mes v.toNat s t.length<=YtfjpfjnepdhnaaaGreat.mes v.toNat s (af (L0++log) (v+1).toNat t).1.length:=qP (by rw[hu];simp);refine⟨⟨h.ok,hA,h.led.prop h.ok h.a,h.dec.prop h.ok h.a,h.chain,h.full,kz h.mes hle⟩,?_⟩;unfold ef;refine OK (yk _ ?_) _;omega
theorem Inv.led_all(h:Inv v L0 t s log){Y:Li}(hY:bZ v Y [])(hc:Nw (L0++log) Y)(hd:∀d∈bP t s,d∈Y):∀l∈t,l∈Y:=fun l hl=>
 h.led s.length (dD _) Y hY hc (fun j hj=>hd _ (jC.2 ⟨j,yC.2 hj,rfl⟩)) l (by rw[fD,xM];exact hl)
theorem Inv.conf(h:Inv v L0 t s log)(hat:0<=(af (L0++log) (v+1).toNat t).2):c8 v (L0++log) (bP (af (L0++log) (v+1).toNat t).1 s)=true:=by
 obtain⟨hP,_⟩:=h.prop;have hD:=gv hP.a;cases hcf:c8 v (L0++log) (bP (af (L0++log) (v+1).toNat t).1 s) with
 |true=>rfl
 |false=>
  exfalso;unfold c8 at hcf;rw[Dv]at hcf;obtain⟨hY,u,hu⟩:=dg h.ok (v+1).toNat hD;have hcl:=eZ h.ok hD (by omega);have hall:=hP.led_all hY hcl fun d hd=>by rw[hu];exact uf _ hd
  obtain⟨_,u2,hu2⟩:=dg h.ok (v+1).toNat h.a;have:=(kT h.ok hY hcl (v+1).toNat h.a fun l hl=>hall l (by rw[hu2];exact uf _ hl)).1;omega
theorem Inv.fail(h:Inv v L0 t s log)(hat:0<=(af (L0++log) (v+1).toNat t).2){c:Li}(hc:c=cj v (L0++log) (bP (af (L0++log) (v+1).toNat t).1 s)):
  kd v c/\mh v (L0++log) c=true/\(c≠[]->∃t' s',ek v (af (L0++log) (v+1).toNat t).1 s c=((v,(t',s')),0)/\Inv v L0 t' s' (log++[c])/\ef v t' s'<ef v t s):=by
 obtain⟨hP,hmp⟩:=h.prop;have hcf:=h.conf hat;generalize (af (L0++log) (v+1).toNat t).1=p at *;have hD:=gv hP.a;obtain⟨J,j1,j2,hS,hlen,hm⟩:=vG (L:=L0++log) hP.a;obtain⟨F,d1,d2⟩:=wg hP.a j1 j2 hS hm;rw[<-hc]at F d1 d2;have hfrom:mh v (L0++log) c=true:=by rw[hc];exact qU h.ok hD hcf (hc▸F.c)
 refine⟨F.c,hfrom,fun hne=>?_⟩;have hJ:J≠[]:=fun e=>hne (d1 e);obtain⟨q1,q2,q3⟩:=d2 hJ;have h0:eD p s c≠0:=fun e=>by
  obtain⟨J',j,rfl⟩:∃J' j,J=J'++[j]:=by rcases JN J with h'|⟨J',j,h'⟩;exact absurd h' hJ;exact⟨J',j,by rw[h',JM]⟩
  rw[oD,e]at q3;have:=(uD hP.a (j2 j (by simp))).1;omega
 have hB:=F.back h0;have hlt:(ka p s c:Int)<lvl p s (eD p s c):=by rcases F.spec with⟨q,_⟩|⟨_,q,_⟩;exact absurd q h0;exact q
 have hT:ka p s c<s.length:=by have:=(oz (t:=p) (s:=s) (l:=eD p s c)).2;omega
 have hu:=F.unit h0 F.to (dD _) hlt;refine⟨_,_,F.jb h0,⟨?_,hB,?_,hP.dec.back hP.a hT _,h.chain.snoc hfrom,fun d hd=>?_,?_⟩,?_⟩;rw[<-List.append_assoc,gf];exact⟨h.ok,fun d hd=>by rw[fQ]at hd;subst hd;exact F.c⟩;rw[<-List.append_assoc];exact hP.led.back hP.a hT F.c hu;rcases jR.1 hd with hd|hd;exact h.full d hd;rw[fQ]at hd;subst hd;exact hne;have:=ns hP.a hT (eD p s c);have:=hP.mes;rw[ey,gC];omega;refine uY ?_ hmp;have e1:=ns hP.a hT (eD p s c);have e2:=iJ hP.a;have e3:=iJ hB;have e4:=hP.a.short;have hv:=hP.a.vars;unfold ef;have e5:(s.take (ka p s c)).length=ka p s c:=by rw[lE];omega
 rw[e5];generalize YtfjpfjnepdhnaaaGreat.mes v.toNat s p.length=m0 at *;generalize YtfjpfjnepdhnaaaGreat.mes v.toNat (s.take (ka p s c)) (p.take (keep p s (ka p s c))++[eD p s c]).length=m1 at *;generalize 2^v.toNat=P at *;have:(P-m0)*(v.toNat+1)>=(P-m1+1)*(v.toNat+1):=yk _ (by omega);rw[Ad]at this;omega
theorem Inv.choose(h:Inv v L0 t s log)(hl:lf v (af (L0++log) (v+1).toNat t).1≠0):
  Inv v L0 ((af (L0++log) (v+1).toNat t).1++[2*lf v (af (L0++log) (v+1).toNat t).1+1]) (s++[((af (L0++log) (v+1).toNat t).1.length:Int)]) log /\
   ef v ((af (L0++log) (v+1).toNat t).1++[2*lf v (af (L0++log) (v+1).toNat t).1+1]) (s++[((af (L0++log) (v+1).toNat t).1.length:Int)])<ef v t s:=by
 obtain⟨hP,hmp⟩:=h.prop;generalize (af (L0++log) (v+1).toNat t).1=p at *;have hv:=hP.a.vars;obtain⟨x1,x2,x3,x4⟩:=(gO (v:=v) (by omega) p).resolve_left fun h=>hl h.1;generalize lf v p=x at *;have hnone:cH p (2*x+1)=2:=by rw[dN]at x3 ⊢;intro a ha he;exact x3 a ha (by omega)
 have hA:=hP.a.dec (x:=2*x+1) (by omega) hnone;have e1:=yP hP.a (2*x+1);refine⟨⟨h.ok,hA,hP.led.dec hP.a _,hP.dec.dec hP.a x1 x2 x4,h.chain,h.full,kz hP.mes e1⟩,uY ?_ hmp⟩;have e2:=hA.short;have hl2:(s++[(p.length:Int)]).length=s.length+1:=by simp
 have hl3:(p++[2*x+1]).length=p.length+1:=by simp
 have hle:(2^v.toNat-YtfjpfjnepdhnaaaGreat.mes v.toNat (s++[(p.length:Int)]) (p++[2*x+1]).length)*(v.toNat+1)<=(2^v.toNat-YtfjpfjnepdhnaaaGreat.mes v.toNat s p.length)*(v.toNat+1):=yk _ (by omega);unfold ef;rw[hl2]at e2 ⊢;rw[hl3]at e2;generalize (2^v.toNat-YtfjpfjnepdhnaaaGreat.mes v.toNat (s++[(p.length:Int)]) (p++[2*x+1]).length)*(v.toNat+1)=A at *;generalize (2^v.toNat-YtfjpfjnepdhnaaaGreat.mes v.toNat s p.length)*(v.toNat+1)=B at *;omega
end
end
section
def eH(L:Ll)(W:Lb):Prop:=∀c∈L,c.any (cO W)=true
theorem fZ{W:Lb}{x:Int}:cO W (2*x)=W.getD (x-1).toNat false:=by unfold cO;rw[ab (by omega),show 2*x/2-1=x-1 from by omega]
theorem jg{W:Lb}{x:Int}:cO W (2*x+1) = !cO W (2*x):=by rw[fZ];unfold cO;rw[aa (by omega),show(2*x+1)/2-1=x-1 from by omega]
def nx(v:Int)(W:Lb):Li:=(cM v.toNat).map fun x=>if cO W (2*x)=true then 2*x else 2*x+1
section
variable {v:Int} {W:Lb}
theorem jq{l:Int}(hl:isLit v l):l∈nx v W↔cO W l=true:=by
 unfold nx;rw[jC];have hx:l/2∈cM v.toNat:=fN.2 (by omega);have e:l=2*(l/2)\/l=2*(l/2)+1:=by omega
 generalize l/2=x at *;constructor;rintro⟨y,hy,h⟩;by_cases ht:cO W (2*y)=true;rw[aa ht]at h;rw[<-h];exact ht;rw[ab ht]at h;rw[<-h,jg];simpa using ht;intro h;refine⟨x,hx,?_⟩;rcases e with e|e;rw[e]at h;rw[aa h,e];rw[e,jg]at h;rw[ab (by simpa using h),e]
theorem qH(hv:gD v):bZ v (nx v W) [] where
 vars:=hv
 lits:=fun l hl=>by unfold nx at hl;obtain⟨x,hx,rfl⟩:=jC.1 hl;have:=fN.1 hx;split<;>omega
 dis:=by unfold nx;rw[D1];unfold cM;rw[D1];refine NF.imp fun {a b} hab he=>?_;split at he<;>split at he<;>omega
 inc:=List.Pairwise.nil
 bnd:=by simp
theorem wx(hv:gD v){L:Ll}(hL:dM v L)(hm:eH L W):Nw L (nx v W):=by intro c hc;obtain⟨l,hl,ht⟩:=nh.1 (hm c hc);have:(iF (nx v W) c).1=1:=EP.2 ⟨l,hl,(cy (qH (W:=W) hv).dis).2 ((jq ((hL c hc).1 l hl)).2 ht)⟩;omega
end
def mQ(v:Int)(T:Li):Lb:=(List.range v.toNat).map fun i:Nat=>decide (2*((i:Int)+1)∈T)
theorem iK{v:Int}{T:Li}:(mQ v T).length=v.toNat:=by simp[mQ]
theorem nt{v:Int}{T:Li}{i:Nat}(hi:i<v.toNat):(mQ v T).getD i false=decide (2*((i:Int)+1)∈T):=by unfold mQ;rw[iB,Kv,Q3 hi];rfl
section
variable {v:Int} {T s:Li}
theorem zO(h:bZ v T s)(ht:∀x,1<=x->x<=v->cH T (2*x)≠2){x:Int}(h1:1<=x)(h2:x<=v):2*x+1∈T↔2*x∉T:=by
 have e:neg (2*x)=2*x+1:=by unfold neg;rw[aa (by omega)]
 rw[<-e,<-cg h.dis,<-cy h.dis];have:=ht x h1 h2;rcases cQ T (2*x) with h|h|h<;>omega
theorem sR(h:bZ v T s)(ht:∀x,1<=x->x<=v->cH T (2*x)≠2){l:Int}(hl:isLit v l):cO (mQ v T) l=decide (l∈T):=by
 have even:∀{x:Int},1<=x->x<=v->cO (mQ v T) (2*x)=decide (2*x∈T):=fun {x} h1 h2=>by rw[fZ,nt (by omega),show 2*(((x-1).toNat:Int)+1)=2*x from by omega]
 have e:l=2*(l/2)\/l=2*(l/2)+1:=by omega
 have b1:1<=l/2:=by omega
 have b2:l/2<=v:=by omega
 generalize l/2=x at *;rcases e with e|e;rw[e,even b1 b2];rw[e,jg,even b1 b2];have:=zO h ht b1 b2;by_cases hx:2*x∈T;simp[hx,this];simp[hx,this]
theorem qR(h:bZ v T s)(ht:∀x,1<=x->x<=v->cH T (2*x)≠2){L:Ll}(hL:dM v L)(hc:Nw L T):eH L (mQ v T):=by intro c hcl;rw[nh];apply og;intro hn;refine(hc c hcl).1 (gq.2 fun l hl=>?_);have hlit:=(hL c hcl).1 l hl;rcases cQ T l with h0|h0|h0;exact h0;exfalso;exact hn ⟨l,hl,by rw[sR h ht hlit];exact kp ((cy h.dis).1 h0)⟩;exfalso;have:=ht (l/2) (by omega) (by omega);rw[dN]at h0;refine this (dN.2 fun a ha he=>h0 a ha ?_);omega
end
def Df(v:Int)(L:Ll)(M:Lb):Prop:=
 M.length=v.toNat/\eH L M/\∀W,W.length=v.toNat->eH L W->∀i,i<v.toNat->(∀j,j<i->W.getD j false=M.getD j false)->M.getD i false=true->W.getD i false=true
theorem jX{v:Int}(hv:gD v){L0:Ll}{W:Lb}(hm:eH L0 W):∀{log:Ll},dM v (L0++log)->jK v L0 log->eH (L0++log) W:=by
 intro log hL hc;have all:∀n,n<=log.length->eH (L0++log.take n) W:=by
  intro n
  induction n with
  |zero=>intro _;simpa using hm
  |succ n ih=>
   intro hn;have hlt:n<log.length:=by omega
   have h1:=ih (by omega);rw[BP,c6 hlt,<-List.append_assoc];intro c hcm;rcases jR.1 hcm with h2|h2;exact h1 c h2;simp only[OI,fQ]at h2;subst h2;refine uC hv (L:=L0++log.take n) (fun d hd=>hL d ?_) (hL _ (D4 _ (dW hlt))) h1 (hc n hlt);rcases jR.1 hd with h|h;exact uf _ h;exact D4 _ (HQ h)
 have:=all log.length (dD _)
 rwa [xM]at this
theorem tE{t s:Li}(x:Int):∀n,n<=s.length->(∃k,k<n/\(∀j,j<k->dc t s j<2*x)/\2*x<=dc t s k)\/∀j,j<n->dc t s j<2*x
 |0,_=>.inr fun j hj=>by omega
 |n+1,hn=>by rcases tE (t:=t) (s:=s) x n (by omega) with⟨k,h1,h2,h3⟩|h;exact .inl ⟨k,by omega,h2,h3⟩;by_cases hd:dc t s n<2*x;refine .inr fun j hj=>?_;rcases iQ j n with h'|h';exact h j h';rw[show j=n from by omega];exact hd;exact .inl ⟨n,by omega,h,by omega⟩
theorem xZ{v:Int}{t s:Li}(h:bZ v t s){j:Nat}(hj:j<s.length):dc t s j∈t:=by obtain⟨i,hi,_,e⟩:=zw h hj;rw[e];exact dW hi
section
variable {v:Int} {L0:Ll} {t s:Li} {log:Ll}
theorem Inv.least(h:Inv v L0 t s log){W:Lb}(hm:eH L0 W){x:Int}(h1:1<=x)(h2:x<=v)(hx:2*x∈t)(hb:∀y,1<=y->y<x->2*y∉t->cO W (2*y)=false):cO W (2*x)=true:=by
 have hv:=h.a.vars;have hM:=jX hv hm h.ok h.chain;have hY:=qH (W:=W) hv;have hcl:=wx hv h.ok hM;have hlow:∀j,j<s.length->dc t s j<2*x->dc t s j∈nx v W:=fun j hj hd=>by obtain⟨y,e1,e2,e3,_⟩:=h.dec j hj;have hmem:=xZ h.a hj;rw[e1]at hd hmem ⊢;rw[jq (by omega),jg,hb y e2 (by omega) ?_];rfl;intro hy;have ht:=(cy h.a.dis).2 hy;have hf:=(cg h.a.dis (l:=2*y)).2 (by unfold neg;rw[aa (by omega)];exact hmem);omega
 rw[<-jq (v:=v) (by omega)];rcases tE (t:=t) (s:=s) x s.length (dD _) with⟨k,k1,k2,k3⟩|hall;obtain⟨y,e1,e2,e3,e4⟩:=h.dec k k1;have hmem:=xZ h.a k1;have hxy:x<y:=by
  have:x≠y:=fun e=>by subst e;rw[e1]at hmem;have ht:=(cy h.a.dis).2 hx;have hf:=(cg h.a.dis (l:=2*x)).2 (by unfold neg;rw[aa (by omega)];exact hmem);omega
  omega
 have hS:=e4 x h1 hxy;have hd2:(t.take (keep t s k)).Pairwise fun a b=>a/2≠b/2:=h.a.dis.sublist (Mp ..);refine h.led k (by omega) _ hY hcl (fun j hj=>hlow j (by omega) (k2 j hj)) _ ?_;rcases cQ (t.take (keep t s k)) (2*x) with h0|h0|h0;exfalso;have:=HQ ((cg hd2).1 h0);have ht:=(cy h.a.dis).2 hx;have hf:=(cg h.a.dis (l:=2*x)).2 this;omega;exact(cy hd2).1 h0;exact absurd h0 hS;exact h.led s.length (dD _) _ hY hcl (fun j hj=>hlow j hj (hall j hj)) _ (by rw[fD,xM];exact hx)
end
structure HO(v:Int)(L0:Ll)(r:Bool×Li×Ll×Nat):Prop where
 ok:dM v (L0++r.2.2.1)
 chain:jK v L0 r.2.2.1
 bnd:r.2.2.2+1<=2^v.toNat
 sat:r.1=true->Df v L0 (mQ v r.2.1)/\(∀c∈r.2.2.1,c≠[])/\r.2.2.2=r.2.2.1.length/\(∃s,bZ v r.2.1 s)/\∀x,1<=x->x<=v->cH r.2.1 (2*x)≠2
 unsat:r.1=false->∃lg,r.2.2.1=lg++[[]]/\(∀c∈lg,c≠[])/\r.2.2.2=lg.length/\r.2.1=[]
theorem xG{v:Int}{L0:Ll}:∀(n:Nat) {t s:Li} {log:Ll},Inv v L0 t s log->ef v t s<n->HO v L0 (xH v n (L0++log) t s log)
 |0,t,s,log,h,hn=>by omega
 |n+1,t,s,log,h,hn=>by
  have hP:=h.prop.1;have hbnd:log.length+1<=2^v.toNat:=by have:=h.mes;have:=iJ h.a;omega
  have hv:=h.a.vars;unfold xH;by_cases hat:0<=(af (L0++log) (v+1).toNat t).2;rw[aa hat];obtain⟨f1,f2,f3⟩:=h.fail hat rfl;by_cases hc:cj v (L0++log) (bP (af (L0++log) (v+1).toNat t).1 s)=[];rw[aa hc];rw[hc]at f1 f2;refine⟨?_,h.chain.snoc f2,hbnd,(by simp),fun _=>⟨log,rfl,h.full,rfl,rfl⟩⟩;show dM v (L0++(log++[[]]));rw[<-List.append_assoc,gf];exact⟨h.ok,fun d hd=>by rw[fQ]at hd;subst hd;exact f1⟩;rw[ab hc];obtain⟨t',s',e1,e2,e3⟩:=f3 hc;rw[e1];have:=xG n e2 (by omega);rw[<-List.append_assoc]at this;exact this;rw[ab hat];by_cases hl:lf v (af (L0++log) (v+1).toNat t).1=0;rw[aa hl];have htot:∀x,1<=x->x<=v->cH (af (L0++log) (v+1).toNat t).1 (2*x)≠2:=by rcases gO (v:=v) (by omega) (af (L0++log) (v+1).toNat t).1 with⟨_,h2⟩|⟨h1,_⟩;exact h2;omega
  have hcl:=eZ h.ok h.a (by omega);have hmod:=qR hP.a htot h.ok hcl;refine⟨h.ok,h.chain,hbnd,fun _=>⟨⟨iK,fun c hc=>hmod c (uf _ hc),fun W hW hm i hi hpre hMi=>?_⟩,h.full,rfl,⟨s,hP.a⟩,htot⟩,by simp⟩;rw[nt hi]at hMi;have hx:=uW hMi;have:=hP.least hm (x:=(i:Int)+1) (by omega) (by omega) hx (fun y y1 y2 hy=>?_);rw[fZ,show((i:Int)+1-1).toNat=i from by omega]at this;exact this;have:=hpre (y-1).toNat (by omega);rw[nt (by omega),show 2*(((y-1).toNat:Int)+1)=2*y from by omega]at this;rw[fZ,this];exact pd hy;rw[ab hl];obtain⟨e1,e2⟩:=h.choose hl;exact xG n e1 (by omega)
end
section
theorem bQ.loop{v:Int}(hv:gD v){L:Ll}(hn:L.length<=100000)(hr:∀c∈L,c.length<=140737488351232/\∀x∈c,in64 x):∀(n i:Nat),i+n=L.length->bQ.l0 v L (L.length:Int) (i:Int)=some (if dM v (L.drop i) then 0 else 8)
 |0,i,hi=>by rw[bQ.l0_eq,cd,ab (by omega),aa];rw[lD (by omega)];intro c hc;cases hc
 |n+1,i,hi=>by
  have hlt:i<L.length:=by omega
  have hw:=wi i (by omega);obtain⟨h1,h2⟩:=hr _ (dW hlt);rw[bQ.l0_eq,cd,aa (by omega),bu hlt,aj,dO h1 h2,aj,aa hv,cn,hw,bQ.loop hv hn hr n (i+1) (by omega),drop_cons hlt];by_cases hc:kd v L[i];rw[aa hc,aa rfl];by_cases h3:dM v (L.drop (i+1));rw[aa h3,aa];intro d hd;rcases eR.1 hd with h|h;rw[h];exact hc;exact h3 d h;rw[ab h3,ab (fun h=>h3 fun d hd=>h d (jI _ hd))];rw[ab hc,ab (by omega),ab (fun h=>hc (h _ (ix ..)))]
theorem kL{v:Int}(hv:gD v){L:Ll}(hn:L.length<=100000)(hr:∀c∈L,c.length<=140737488351232/\∀x∈c,in64 x):bQ v L=some (if L.length>20000 then 4 else if dM v L then 0 else 8):=by have:=bQ.loop hv hn hr L.length 0 (by omega);rw[show((0:Nat):Int)=0 from rfl,jH]at this;rw[bQ.eq,cd];by_cases h:L.length>20000;rw[aa (by omega),aa h];rw[ab (by omega),ab h,this]
section
variable {v:Int} {L log:Ll} {t s:Li} {k:Int}
theorem mA.loop(h:bZ v t s){b:Bool}{m:Lb}{co:Li}:∀(n i:Nat),i+n=s.length ->
  aO.l0 (s.length:Int) (i:Int) v v b k log co m s t L ((List.range i).map (dc t s))=aO.l0 (s.length:Int) (s.length:Int) v v b k log co m s t L (bP t s)
 |0,i,hi=>by
  have:i=s.length:=by omega
  subst this;rfl
 |n+1,i,hi=>by
  have hlt:i<s.length:=by omega
  have hv:=h.vars;have hsh:=h.short;have hw:=wi i (by omega);obtain⟨j,hj,h1,e1⟩:=zw h hlt;rw[<-mA.loop h n (i+1) (by omega),aO.l0_eq (x17:=(i:Int)),cd,aa (by omega),bu hlt,aj,jm,c6 hlt,aj,h1,bu hj,aj,jm,
   c6 hj,aj,bH (by simp;omega),aj,hw,NZ,Il,List.map_singleton,e1]
theorem gX{a b:Int}{bo:Bool}{m:Lb}{co c:Li}(h1:L.length<=20000)(h2:log.length<=20000):bY a L b t s bo m co log k c=some (a,(L++[c],((b,(t,s)),(bo,(m,(co,(log++[c],k))))))):=by rw[bY.eq,bH (by simp;omega),aj,bH (by simp;omega),aj]
theorem yR:cj v L []=[]:=by unfold cj;obtain⟨p1,_⟩:=eQ (([]:Li).map neg);exact tS (by simpa[shr]using p1.length_eq)
theorem gj(h:bZ v t s)(hL:dM v L)(hn:L.length<20000)(hlog:log.length<=20000)(hk:0<=k/\k<=1000000)(hc:c8 v L (bP t s)=true){c:Li}(hce:c=cj v L (bP t s))(hcok:kd v c)
  {t' s':Li} (hb:c≠[]->ek v t s c=((v,(t',s')),0)) :
  aO v L v t s false [] [] log k=if c=[] then some (false,0,(v,(L++[[]],((v,(t,s)),(false,([],([],(log++[[]],k)))))))) else some (true,0,(v,(L++[c],((v,(t',s')),(false,([],([],(log++[c],k+1)))))))):=by
 have hv:=h.vars;have hsh:=h.short;have ht64:∀l∈t,in64 l:=fun l hl=>by have:=h.lits l hl;omega
 have g:=mA.loop (L:=L) (log:=log) (k:=k) (b:=false) (m:=[]) (co:=[]) h s.length 0 (by omega);rw[show((0:Nat):Int)=0 from rfl]at g;have e0:aO v L v t s false [] [] log k=_:=(aO.eq ..).trans g;have hD:=gv h;have hdl:(bP t s).length=s.length:=by simp[bP]
 rw[e0,aO.l0_eq,cd,ab (by omega),cd];by_cases hs:s.length=0;have hd0:bP t s=[]:=tS (by omega);have hc0:c=[]:=by rw[hce,hd0];exact yR
 rw[ab (by omega),ce,ab (by omega),ce,aa (by simp),gX (by omega) hlog,aj,aa hc0];rw[aa (by omega),dh hD hL (by omega) hc,aj,<-hce];dsimp only;rw[cn,aa rfl,ce,ab (by omega),ce];by_cases hc0:c=[];rw[aa (by rw[hc0];rfl),aa hc0,gX (by omega) hlog,aj];have hcl:¬(c.length:Int)=0:=fun e=>hc0 (tS (by omega));have hc64:∀l∈c,in64 l:=fun l hl=>by have:=hcok.1 l hl;omega
 have hcs:=hcok.short hv;have hw:wrap .i64 (k+1)=k+1:=by rw[wr]<;>omega
 rw[ab hcl,ab hc0,jT (by omega) (by omega) ht64 (by omega) hc64,aj,hb hc0];dsimp only;rw[cn,aa rfl,hw,gX (by omega) hlog,aj]
theorem yL(h:bZ v t s):(lf v t=0/\∃a b,th (cM v.toNat) v t s=(a,b,6))\/(lf v t≠0/\∃r,th (cM v.toNat) v t s=(lf v t,r,0)):=by
 have hv:=h.vars;have hH:=Db (n:=v.toNat) (by omega);have hC:th (cM v.toNat) v t s=po v t ((cM v.toNat).length+1) (cM v.toNat):=by unfold th;rw[aa hH,aa h]
 rw[hC];rcases qL (v:=v) (t:=t) ((cM v.toNat).length+1) hH (by omega) with⟨h1,h2⟩|⟨m,r,h1,h2,h3,h4,h5,h6,h7⟩<;>rcases gO (v:=v) (by omega) t with⟨g1,g2⟩|⟨g1,g2,g3,g4⟩;exact .inl ⟨g1,_,_,h2⟩;exact absurd ((nE g2).2 g3) (h1 _ (fN.2 (by omega)));have hm:=fN.1 h3;exact absurd ((nE (by omega)).1 h4) (g2 m hm.1 (by omega));have hm:=fN.1 h3;have a1:=h5 (lf v t) (fN.2 (by omega)) ((nE g2).2 g3);have a2:¬m<lf v t:=fun hlt=>g4 m hm.1 hlt ((nE (by omega)).1 h4);have:m=lf v t:=by omega
 subst this;exact .inr ⟨by omega,r,h1⟩
theorem kc{bo:Bool}{m:Lb}{co:Li}(h:bZ v t s):cV v L v t s bo m co log k (cM v.toNat)=if lf v t=0 then some (false,(v,(L,((v,(t,s)),(bo,(m,(co,(log,k)))))))) else
  some (true,(v,(L,((v,(t++[2*lf v t+1],s++[(t.length:Int)])),(bo,(m,(co,(log,k)))))))):=by
 have hv:=h.vars;have hsh:=h.short;have ht64:∀l∈t,in64 l:=fun l hl=>by have:=h.lits l hl;omega
 rw[cV.eq,lj (by omega) (by omega) ht64,aj];rcases yL h with⟨h1,a,b,h2⟩|⟨h1,r,h2⟩;rw[h2,aa h1];dsimp only;rw[cn,ab (by omega)];rw[h2,ab h1];have hb:=(gO (v:=v) (by omega) t).resolve_left fun h=>h1 h.1;have hw:wrap .i64 (wrap .i64 (2*lf v t)+1)=2*lf v t+1:=by rw[wr (x:=2*lf v t) (by omega) (by omega),wr (by omega) (by omega)]
 dsimp only;rw[cn,aa rfl,bH (by simp;omega),aj,hw,bH (by simp;omega),aj]
theorem vF{T:Li}(h:bZ v T s){i:Nat}(hi:i<T.length):mQ v (T.take (i+1))=(mQ v (T.take i)).set (T[i]/2-1).toNat (decide (T[i]%2=0)):=by
 have hl:=h.lits _ (dW hi);refine Mq (by simp[iK]) fun j h1 h2=>?_;rw[iK]at h1;have e:∀{T:Li} (hj:j<(mQ v T).length),(mQ v T)[j]=decide (2*((j:Int)+1)∈T):=fun hj=>by simp[mQ]
 rw[e,List.getElem_set];have hmem:∀x,x∈T.take (i+1)↔x∈T.take i\/x=T[i]:=fun x=>by rw[BP,c6 hi,jR,OI,fQ]
 by_cases hj:(T[i]/2-1).toNat=j;rw[aa hj,Dr,hmem];constructor;rintro(hx|hx);exfalso;obtain⟨q,hq,e1⟩:=LR.1 hx;rw[lE]at hq;rw[Di]at e1;have:=(xd.1 h.dis) q i (by omega) hi (by omega);omega;omega;intro hx;right;omega;rw[ab hj,e,Dr,hmem];constructor;rintro(hx|hx);exact hx;omega;exact .inl
theorem oZ.loop{T:Li}(h:bZ v T s){a:Int}{bo:Bool}{co:Li}:∀(n i:Nat),i+n=T.length ->
  ba.l0 (T.length:Int) (i:Int) a v bo k log co [] s T L (mQ v (T.take i))=some (a,(L,((v,(T,s)),(bo,(mQ v T,(co,(log,k)))))))
 |0,i,hi=>by rw[ba.l0_eq,cd,ab (by omega),BQ (by omega)]
 |n+1,i,hi=>by
  have hlt:i<T.length:=by omega
  have hv:=h.vars;have hsh:=h.short;have hl:=h.lits _ (dW hlt);have hw:=wi i (by omega);have hw2:wrap .i64 (wrap .i64 (Int.tdiv T[i] 2)-1)=T[i]/2-1:=by rw[td (by omega) (by omega),wr (by omega) (by omega)]
  have hlen:(mQ v (T.take i)).length=v.toNat:=iK;have hidx:(T[i]/2-1).toNat<(mQ v (T.take i)).length:=by omega
  have e1:(T[i]%2==0)=decide (T[i]%2=0):=by rw[BR];simp
  rw[ba.l0_eq,cd,aa (by omega),bu hlt,aj,jm,c6 hlt,aj,hw2,MS (by omega),c6 hidx,aj,aj,hw,tm (by omega),e1,<-vF h hlt,
   oZ.loop h n (i+1) (by omega)]
theorem kK{T:Li}(h:bZ v T s):ba v L v T s false [] [] log k=some (v,(L,((v,(T,s)),(true,(mQ v T,([],(log,k))))))):=by
 have hv:=h.vars;have g:=oZ.loop (L:=L) (log:=log) (k:=k) (a:=v) (bo:=true) (co:=[]) h T.length 0 (by omega);have h0:mQ v (T.take 0)=List.replicate v.toNat false:=by refine Mq (by simp[iK]) fun j h1 h2=>?_;simp[mQ]
 rw[h0,show((0:Nat):Int)=0 from rfl]at g;rw[ba.eq,kV (by omega) (by omega),aj,aa rfl,g]
end
abbrev PN:=(Bool×Lb×Li×Ll×Int)×Int
def Jo:Bool×Lb×Li×Ll×Int:=(false,[],[],[],0)
def nU(v:Int)(r:Bool×Li×Ll×Nat):Bool×Lb×Li×Ll×Int:=(r.1,if r.1 then mQ v r.2.1 else[],[],r.2.2.1,(r.2.2.2:Int))
def oP(v b:Int)(r:Bool×Li×Ll×Nat):PN:=if(r.2.2.2:Int)<=b then(nU v r,0) else(Jo,55)
theorem aS.loop1{v b:Int}{L0:Ll}{b0:Bool}{b1:Int}{o2:Lb}{o3:Li}{o4:Ll}(hlim:L0.length+2^v.toNat<=20000):∀(n:Nat) {t s:Li} {log:Ll},Inv v L0 t s log->ef v t s<n->(log.length:Int)<=b ->
  aS.l1 b (cM v.toNat) b0 b1 v v false (log.length:Int) o2 o3 o4 (L0++log) t s [] [] log=some (oP v b (xH v n (L0++log) t s log))
 |0,t,s,log,h,hn,hb=>by omega
 |n+1,t,s,log,h,hn,hb=>by
  have hv:=h.a.vars;have hsh:=h.a.short;have hP:=h.prop.1;have htop:log.length+1<=2^v.toNat:=by have:=h.mes;have:=iJ h.a;omega
  have hll:(L0++log).length<20000:=by rw[ey];omega
  have ht64:∀l∈t,in64 l:=fun l hl=>by have:=h.a.lits l hl;omega
  have hr:∀c∈L0++log,c.length<=140737488351232/\∀x∈c,in64 x:=fun c hc=>⟨by have:=(h.ok c hc).len hv;omega,fun x hx=>jr hv ((h.ok c hc).1 x hx)⟩;have hrun:pG v t s (L0++log)=((v,(af (L0++log) (v+1).toNat t).1,s),(af (L0++log) (v+1).toNat t).2,0):=by unfold pG;rw[aa h.a,ab (by omega),aa h.ok]
  rw[aS.l1_eq,gp (by omega) (by omega) ht64 (by omega) hr,aj,hrun];dsimp only;rw[cn,aa rfl,cd];unfold xH;by_cases hat:0<=(af (L0++log) (v+1).toNat t).2;rw[aa hat,aa hat];obtain⟨f1,f2,f3⟩:=h.fail hat rfl;have hcf:=h.conf hat;by_cases hc:cj v (L0++log) (bP (af (L0++log) (v+1).toNat t).1 s)=[];rw[gj (t':=[]) (s':=[]) hP.a h.ok hll (by rw[ey]at hll;omega) ⟨by omega,by omega⟩ hcf rfl f1 (fun hne=>absurd hc hne),aa hc,aa hc,aj];dsimp only;rw[ce,aa rfl,cd,ab (by omega),cn,aa rfl,iA,cf];unfold oP nU;rw[aa hb];rfl;obtain⟨t',s',e1,e2,e3⟩:=f3 hc;rw[gj hP.a h.ok hll (by rw[ey]at hll;omega) ⟨by omega,by omega⟩ hcf rfl f1 (fun _=>e1),ab hc,ab hc,aj,e1];dsimp only;rw[ce,aa rfl,cd];by_cases hov:(log.length:Int)+1>b;rw[aa hov,cn,ab (by omega)];unfold oP;have:=mY (v:=v) n (L0++log++[cj v (L0++log) (bP (af (L0++log) (v+1).toNat t).1 s)]) t' s' (log++[cj v (L0++log) (bP (af (L0++log) (v+1).toNat t).1 s)]);rw[ey (bs:=[_]),gC]at this;rw[ab (by omega)];rfl;rw[ab hov,cn,aa rfl,iA,ct];have:=aS.loop1 (b:=b) (b0:=b0) (b1:=b1) (o2:=o2) (o3:=o3) (o4:=o4) hlim n e2 (by omega) (by rw[ey,gC];omega);rw[<-List.append_assoc,ey (bs:=[_]),gC,OH]at this;exact this;rw[ab hat,ab hat,kc hP.a];by_cases hl:lf v (af (L0++log) (v+1).toNat t).1=0;rw[aa hl,aa hl,aj];dsimp only;rw[iA,cf,kK hP.a,aj];unfold oP nU;rw[aa hb];rfl;obtain⟨e1,e2⟩:=h.choose hl;rw[ab hl,ab hl,aj];dsimp only;rw[iA,ct];exact aS.loop1 hlim n e1 (by omega) hb
def EU(v:Int)(L:Ll):Bool×Li×Ll×Nat:=xH v (ef v [] []+1) L [] [] []
theorem IL{v:Int}(hv:gD v){L:Ll}(hL:dM v L):Inv v L [] [] [] where
 ok:=by rw[s7];exact hL
 a:=⟨hv,by simp,List.Pairwise.nil,List.Pairwise.nil,by simp⟩
 led:=mK.empty hv
 dec:=AN.empty
 chain:=fun i hi=>by simp at hi
 full:=by simp
 mes:=Ks _
theorem ET{v:Int}(hv:gD v){L:Ll}(hL:dM v L):HO v L (EU v L):=by
 have:=xG (ef v [] []+1) (IL hv hL) (Kq _)
 rwa [s7]at this
theorem aS.loop0{v b:Int}(hv:gD v){b0 b1_2:Bool}{b1 b2 b3 b4:Int}{o3 o8:Lb}{o4 o7 o9:Li}{o5 o6 o10:Ll}{o11:Li}:∀(n k:Nat),(k:Int)+n=v ->
  aS.l0 v b ((k+1:Nat):Int) b0 b1 b2 b3 b1_2 b4 (cM k) o3 o4 o5 o6 o7 o11 o8 o9 o10=aS.l1 b (cM v.toNat) b0 b1 b2 b3 b1_2 b4 o3 o4 o5 o6 o7 o11 o8 o9 o10
 |0,k,hk=>by
  have e:v.toNat=k:=by omega
  rw[aS.l0_eq,cd,ab (by omega),e]
 |n+1,k,hk=>by
  have hl:((cM k).length:Int)=k:=by rw[jB]
  rw[aS.l0_eq,cd,aa (by omega),bH (by simp;omega),aj,vk (by omega),<-aS.loop0 hv n (k+1) (by omega),tP];rfl
theorem tY{v b:Int}(hv:gD v)(hb:0<=b/\b<=100000){L:Ll}(hL:dM v L)(hlim:L.length+2^v.toNat<=20000):aS v L b=some (oP v b (EU v L)):=by have hr:∀c∈L,c.length<=140737488351232/\∀x∈c,in64 x:=fun c hc=>⟨by have:=(hL c hc).len hv;omega,fun x hx=>jr hv ((hL c hc).1 x hx)⟩;have hN:L.length<=20000:=kz (LO _ _) hlim;have g0:=aS.loop0 (b:=b) (b0:=false) (b1:=0) (b2:=v) (b3:=v) (b1_2:=false) (b4:=0) (o3:=[]) (o4:=[]) (o5:=[]) (o6:=L) (o7:=[]) (o11:=[]) (o8:=[]) (o9:=[]) (o10:=[]) hv v.toNat 0 (by omega);have g1:=aS.loop1 (b:=b) (b0:=false) (b1:=0) (o2:=[]) (o3:=[]) (o4:=[]) hlim (ef v [] []+1) (IL hv hL) (Kq _) (by simpa using hb.1);rw[s7]at g1;rw[aS.eq,cd,ab (by omega),cd,ab (by omega),cd,ab (by omega),cd,ab (by omega),kL hv (by omega) hr,aj,ab (by omega),aa hL,cn,aa rfl,dU (by omega),aj];exact g0.trans g1
end
section
abbrev Jw:=Bool×Lb×Li×Ll×Int
theorem zT{v:Int}(h0:0<=v)(h:v<=12):2^v.toNat<=4096:=Nat.pow_le_pow_right (n:=2) (by omega) (show v.toNat<=12 by omega)
section
variable {v:Int} {L:Ll}
end
end
section
def oS(Q:Li->Int->Prop)(t s:Li):Prop:=∀j,j<s.length->Q (t.take (keep t s j)) (dc t s j)
section
variable {v:Int} {L:Ll} {t s:Li} {Q:Li->Int->Prop}
theorem oS.empty:oS Q [] []:=fun j hj=>by simp at hj
theorem oS.prop(hL:dM v L)(h:bZ v t s)(hd:oS Q t s){n:Nat}:oS Q (af L n t).1 s:=by
 obtain⟨hA,u,hu⟩:=dg hL n h;intro j hj;have ht:(af L n t).1.take t.length=t.take t.length:=by rw[hu];simp
 have hkb:=dz h hj;rw[gm h hj hj rfl ht hkb,dQ (t:=t) hj hj rfl,gK ht (by omega)];exact hd j hj
theorem oS.dec(h:bZ v t s)(hd:oS Q t s){x:Int}(hx:Q t x):oS Q (t++[x]) (s++[(t.length:Int)]):=by
 intro j hj;have ht:(t++[x]).take t.length=t.take t.length:=by simp
 rw[ey,gC]at hj;have hlast:keep (t++[x]) (s++[(t.length:Int)]) s.length=t.length:=by rw[eC (by simp)];simp
 rcases iQ j s.length with hlt|hge;have hs:(s++[(t.length:Int)])[j]'(by simp;omega)=s[j]:=OQ hlt;have hkb:=dz h hlt;rw[gm h hlt (by simp;omega) hs ht hkb,dQ (t:=t) hlt (by simp;omega) hs,gK ht (by omega)];exact hd j hlt;have:j=s.length:=by omega
 subst this;rw[hlast,ht,xM,nJ (by simp),hlast];simpa using hx
theorem oS.back(h:bZ v t s)(hd:oS Q t s){T:Nat}(hT:T<s.length)(g:Int):oS Q (t.take (keep t s T)++[g]) (s.take T):=by
 intro j hj;have hkb:=dz h hT;have ht:(t.take (keep t s T)++[g]).take (keep t s T)=t.take (keep t s T):=by rw[N4 (by rw[lE];omega),NA,Nat.min_self]
 have hsl:(s.take T).length=T:=by rw[lE];omega
 rw[hsl]at hj;have hs:(s.take T)[j]'(by omega)=s[j]'(by omega):=by rw[Di]
 rw[gm h (by omega) (by omega) hs ht (gx h hj hT),dQ (t:=t) (show j<s.length by omega) (by omega) hs,gK ht (by have:=gx h hj hT;omega)];exact hd j (by omega)
end
def QA(v:Int)(A:Li)(p:Li)(d:Int):Prop:=
 d∈A\/∃x,d=2*x+1/\1<=x/\x<=v/\(∀y,1<=y->y<x->cH p (2*y)≠2)/\∀a∈A,a∈p
def dF(A:Li):Ll:=A.map fun x=>[x]
theorem gN{A:Li}{W:Lb}:eH (dF A) W↔∀a∈A,cO W a=true:=by constructor;intro h a ha;have:=h [a] (PZ ha);simpa using this;intro h c hc;obtain⟨a,ha,rfl⟩:=jC.1 hc;simpa using h a ha
theorem kU{A B:Ll}{W:Lb}:eH (A++B) W↔eH A W/\eH B W:=by constructor;exact fun h=>⟨fun c hc=>h c (uf _ hc),fun c hc=>h c (D4 _ hc)⟩;rintro⟨h1,h2⟩ c hc;rcases jR.1 hc with h|h;exact h1 c h;exact h2 c h
theorem IF{v:Int}{L:Ll}{D:Li}(hD:bZ v D []):kd v (cj v L D)/\∀y∈cj v L D,neg y∈D:=by
 have hs:=lI (v:=v) (L:=L) D D;have hS:=uk hD hs;obtain⟨p1,p2⟩:=eQ ((shr v L D D).map neg);have hmem:∀y∈cj v L D,∃z∈shr v L D D,y=neg z:=fun y hy=>by unfold cj at hy;rw[p1.mem_iff,jC]at hy;obtain⟨z,hz,rfl⟩:=hy;exact⟨z,hz,rfl⟩
 refine⟨⟨fun l hl=>?_,?_⟩,fun y hy=>?_⟩;obtain⟨z,hz,rfl⟩:=hmem l hl;exact nr (hS.lits z hz);have hd:((shr v L D D).map neg).Pairwise fun a b=>a/2≠b/2:=by rw[D1];exact hS.dis.imp fun h=>by rw[cq,cq];exact h
 have hd2:(cj v L D).Pairwise fun a b=>a/2≠b/2:=by unfold cj;exact(p1.pairwise_iff (fun h e=>h e.symm)).2 hd
 unfold cj at hd2 ⊢;exact(p2.and hd2).imp fun h=>by have:=h.1;have:=h.2;omega
 obtain⟨z,hz,rfl⟩:=hmem y hy;rw[neg_neg];exact hs.subset hz
def fp(A t:Li):Option Int:=A.find? fun l=>decide (cH t l≠1)
def gY(v:Int)(A:Li):Nat->Ll->Li->Li->Ll->Bool×Li×Ll×Nat
 |0,_,_,_,log=>(false,[],log,log.length)
 |n+1,L,t,s,log=>
  if 0<=(af L (v+1).toNat t).2 then
   if cj v L (bP (af L (v+1).toNat t).1 s)=[] then(false,[],log++[[]],log.length)
   else gY v A n (L++[cj v L (bP (af L (v+1).toNat t).1 s)]) (ek v (af L (v+1).toNat t).1 s (cj v L (bP (af L (v+1).toNat t).1 s))).1.2.1
    (ek v (af L (v+1).toNat t).1 s (cj v L (bP (af L (v+1).toNat t).1 s))).1.2.2 (log++[cj v L (bP (af L (v+1).toNat t).1 s)])
  else match fp A (af L (v+1).toNat t).1 with
   |some l=>if cH (af L (v+1).toNat t).1 l=0 then(false,[],log++[cj v L A],log.length)
    else gY v A n L ((af L (v+1).toNat t).1++[l]) (s++[((af L (v+1).toNat t).1.length:Int)]) log
   |none=>if lf v (af L (v+1).toNat t).1=0 then(true,(af L (v+1).toNat t).1,log,log.length)
    else gY v A n L ((af L (v+1).toNat t).1++[2*lf v (af L (v+1).toNat t).1+1]) (s++[((af L (v+1).toNat t).1.length:Int)]) log
theorem jk{v:Int}{A:Li}:∀(n:Nat) (L:Ll) (t s:Li) (log:Ll),log.length<=(gY v A n L t s log).2.2.2
 |0,L,t,s,log=>dD _
 |n+1,L,t,s,log=>by unfold gY;split;split;exact dD _;refine kz ?_ (jk n _ _ _ _);simp;split;split;exact dD _;exact jk n _ _ _ _;split;exact dD _;exact jk n _ _ _ _
theorem qm{v:Int}:∀(n:Nat) (L:Ll) (t s:Li) (log:Ll),gY v [] n L t s log=xH v n L t s log
 |0,L,t,s,log=>rfl
 |n+1,L,t,s,log=>by unfold gY xH;simp only[fp,List.find?_nil];split;split;rfl;exact qm n _ _ _ _;split;rfl;exact qm n _ _ _ _
structure jc(v:Int)(A:Li)(L0:Ll)(t s:Li)(log:Ll):Prop where
 ok:dM v (L0++log)
 a:bZ v t s
 led:mK v (L0++log) t s
 dec:oS (QA v A) t s
 chain:jK v L0 log
 mes:log.length<=mes v.toNat s t.length
section
variable {v:Int} {A:Li} {L0:Ll} {t s:Li} {log:Ll}
theorem jc.prop(h:jc v A L0 t s log):jc v A L0 (af (L0++log) (v+1).toNat t).1 s log/\ef v (af (L0++log) (v+1).toNat t).1 s<=ef v t s:=by obtain⟨hA,u,hu⟩:=dg h.ok (v+1).toNat h.a;have hle:YtfjpfjnepdhnaaaGreat.mes v.toNat s t.length<=YtfjpfjnepdhnaaaGreat.mes v.toNat s (af (L0++log) (v+1).toNat t).1.length:=qP (by rw[hu];simp);refine⟨⟨h.ok,hA,h.led.prop h.ok h.a,h.dec.prop h.ok h.a,h.chain,kz h.mes hle⟩,?_⟩;unfold ef;refine OK (yk _ ?_) _;omega
theorem jc.led_all(h:jc v A L0 t s log){Y:Li}(hY:bZ v Y [])(hc:Nw (L0++log) Y)(hd:∀d∈bP t s,d∈Y):∀l∈t,l∈Y:=fun l hl=>
 h.led s.length (dD _) Y hY hc (fun j hj=>hd _ (jC.2 ⟨j,yC.2 hj,rfl⟩)) l (by rw[fD,xM];exact hl)
theorem jc.conf(h:jc v A L0 t s log)(hat:0<=(af (L0++log) (v+1).toNat t).2):c8 v (L0++log) (bP (af (L0++log) (v+1).toNat t).1 s)=true:=by
 obtain⟨hP,_⟩:=h.prop;have hD:=gv hP.a;cases hcf:c8 v (L0++log) (bP (af (L0++log) (v+1).toNat t).1 s) with
 |true=>rfl
 |false=>
  exfalso;unfold c8 at hcf;rw[Dv]at hcf;obtain⟨hY,u,hu⟩:=dg h.ok (v+1).toNat hD;have hcl:=eZ h.ok hD (by omega);have hall:=hP.led_all hY hcl fun d hd=>by rw[hu];exact uf _ hd
  obtain⟨_,u2,hu2⟩:=dg h.ok (v+1).toNat h.a;have:=(kT h.ok hY hcl (v+1).toNat h.a fun l hl=>hall l (by rw[hu2];exact uf _ hl)).1;omega
theorem jc.fail(h:jc v A L0 t s log)(hat:0<=(af (L0++log) (v+1).toNat t).2){c:Li}(hc:c=cj v (L0++log) (bP (af (L0++log) (v+1).toNat t).1 s)):
  kd v c/\mh v (L0++log) c=true/\(c≠[]->∃t' s',ek v (af (L0++log) (v+1).toNat t).1 s c=((v,(t',s')),0)/\jc v A L0 t' s' (log++[c])/\ef v t' s'<ef v t s):=by
 obtain⟨hP,hmp⟩:=h.prop;have hcf:=h.conf hat;generalize (af (L0++log) (v+1).toNat t).1=p at *;have hD:=gv hP.a;obtain⟨J,j1,j2,hS,hlen,hm⟩:=vG (L:=L0++log) hP.a;obtain⟨F,d1,d2⟩:=wg hP.a j1 j2 hS hm;rw[<-hc]at F d1 d2;have hfrom:mh v (L0++log) c=true:=by rw[hc];exact qU h.ok hD hcf (hc▸F.c)
 refine⟨F.c,hfrom,fun hne=>?_⟩;have hJ:J≠[]:=fun e=>hne (d1 e);obtain⟨q1,q2,q3⟩:=d2 hJ;have h0:eD p s c≠0:=fun e=>by
  obtain⟨J',j,rfl⟩:∃J' j,J=J'++[j]:=by rcases JN J with h'|⟨J',j,h'⟩;exact absurd h' hJ;exact⟨J',j,by rw[h',JM]⟩
  rw[oD,e]at q3;have:=(uD hP.a (j2 j (by simp))).1;omega
 have hB:=F.back h0;have hlt:(ka p s c:Int)<lvl p s (eD p s c):=by rcases F.spec with⟨q,_⟩|⟨_,q,_⟩;exact absurd q h0;exact q
 have hT:ka p s c<s.length:=by have:=(oz (t:=p) (s:=s) (l:=eD p s c)).2;omega
 have hu:=F.unit h0 F.to (dD _) hlt;refine⟨_,_,F.jb h0,⟨?_,hB,?_,hP.dec.back hP.a hT _,h.chain.snoc hfrom,?_⟩,?_⟩;rw[<-List.append_assoc,gf];exact⟨h.ok,fun d hd=>by rw[fQ]at hd;subst hd;exact F.c⟩;rw[<-List.append_assoc];exact hP.led.back hP.a hT F.c hu;have:=ns hP.a hT (eD p s c);have:=hP.mes;rw[ey,gC];omega;refine uY ?_ hmp;have e1:=ns hP.a hT (eD p s c);have e2:=iJ hP.a;have e3:=iJ hB;have e4:=hP.a.short;have hv:=hP.a.vars;unfold ef;have e5:(s.take (ka p s c)).length=ka p s c:=by rw[lE];omega
 rw[e5];generalize YtfjpfjnepdhnaaaGreat.mes v.toNat s p.length=m0 at *;generalize YtfjpfjnepdhnaaaGreat.mes v.toNat (s.take (ka p s c)) (p.take (keep p s (ka p s c))++[eD p s c]).length=m1 at *;generalize 2^v.toNat=P at *;have:(P-m0)*(v.toNat+1)>=(P-m1+1)*(v.toNat+1):=yk _ (by omega);rw[Ad]at this;omega
theorem jc.choose(h:jc v A L0 t s log){p:Li}(hp:p=(af (L0++log) (v+1).toNat t).1){x:Int}(hx:isLit v x)(hf:cH p x=2)(hq:QA v A p x):
  jc v A L0 (p++[x]) (s++[(p.length:Int)]) log/\ef v (p++[x]) (s++[(p.length:Int)])<ef v t s:=by
 obtain⟨hP,hmp⟩:=h.prop;rw[<-hp]at hP hmp;have hv:=hP.a.vars;have hA:=hP.a.dec hx hf;have e1:=yP hP.a x;refine⟨⟨h.ok,hA,hP.led.dec hP.a _,hP.dec.dec hP.a hq,h.chain,kz hP.mes e1⟩,uY ?_ hmp⟩;have e2:=hA.short;have hl2:(s++[(p.length:Int)]).length=s.length+1:=by simp
 have hl3:(p++[x]).length=p.length+1:=by simp
 have hle:(2^v.toNat-YtfjpfjnepdhnaaaGreat.mes v.toNat (s++[(p.length:Int)]) (p++[x]).length)*(v.toNat+1)<=(2^v.toNat-YtfjpfjnepdhnaaaGreat.mes v.toNat s p.length)*(v.toNat+1):=yk _ (by omega);unfold ef;rw[hl2]at e2 ⊢;rw[hl3]at e2;generalize (2^v.toNat-YtfjpfjnepdhnaaaGreat.mes v.toNat (s++[(p.length:Int)]) (p++[x]).length)*(v.toNat+1)=B1 at *;generalize (2^v.toNat-YtfjpfjnepdhnaaaGreat.mes v.toNat s p.length)*(v.toNat+1)=B2 at *;omega
theorem tD(P:Nat->Prop):∀n,(∃k,k<n/\(∀j,j<k->P j)/\¬P k)\/∀j,j<n->P j
 |0=>.inr fun j hj=>by omega
 |n+1=>by rcases tD P n with⟨k,h1,h2,h3⟩|h;exact .inl ⟨k,by omega,h2,h3⟩;by_cases hd:P n;refine .inr fun j hj=>?_;rcases iQ j n with h'|h';exact h j h';rw[show j=n from by omega];exact hd;exact .inl ⟨n,by omega,h,hd⟩
theorem wC{v:Int}{t s:Li}(h:bZ v t s){x:Int}(h1:2*x∈t)(h2:2*x+1∈t):False:=by have ht:=(cy h.dis).2 h1;have hf:=(cg h.dis (l:=2*x)).2 (by unfold neg;rw[aa (by omega)];exact h2);omega
theorem jc.least(h:jc v A L0 t s log){W:Lb}(hm:eH (dF A++L0) W)(hA:∀a∈A,isLit v a){x:Int}(h1:1<=x)(h2:x<=v)(hx:2*x∈t)(hb:∀y,1<=y->y<x->2*y∉t->cO W (2*y)=false):cO W (2*x)=true:=by
 have hv:=h.a.vars;obtain⟨hmA,hm0⟩:=kU.1 hm;rw[gN]at hmA;have hM:=jX hv hm0 h.ok h.chain;have hY:=qH (W:=W) hv;have hcl:=wx hv h.ok hM;rw[<-jq (v:=v) (by omega)];rcases tD (fun j=>dc t s j∈nx v W) s.length with⟨k,k1,k2,k3⟩|hall;have hmem:=xZ h.a k1;rcases h.dec k k1 with hq|⟨y,e1,e2,e3,e4,e5⟩;exact absurd ((jq (hA _ hq)).2 (hmA _ hq)) k3;rw[e1]at k3 hmem;have hty:cO W (2*y)=true:=by rw[jq (by omega),jg]at k3;simpa using k3
 have hny:2*y∉t:=fun h'=>wC h.a h' hmem;have hxy:x<y:=by apply og;intro hn;by_cases hxe:x=y;exact hny (hxe▸hx);rw[hb y e2 (by omega) hny]at hty;cases hty
 have hS:=e4 x h1 hxy;have hd2:(t.take (keep t s k)).Pairwise fun a b=>a/2≠b/2:=h.a.dis.sublist (Mp ..);refine h.led k (by omega) _ hY hcl k2 _ ?_;rcases cQ (t.take (keep t s k)) (2*x) with h0|h0|h0;exfalso;have:=HQ ((cg hd2).1 h0);unfold neg at this;rw[aa (by omega)]at this;exact wC h.a hx this;exact(cy hd2).1 h0;exact absurd h0 hS;exact h.led s.length (dD _) _ hY hcl hall _ (by rw[fD,xM];exact hx)
theorem jc.under(h:jc v A L0 t s log)(hA:bZ v A []){p:Li}(hp:p=(af (L0++log) (v+1).toNat t).1){l:Int}(hl:l∈A)(h0:cH p l=0):c8 v (L0++log) A=true:=by
 obtain⟨hP,_⟩:=h.prop;rw[<-hp]at hP;cases hcf:c8 v (L0++log) A with
 |true=>rfl
 |false=>
  exfalso;unfold c8 at hcf;rw[Dv]at hcf;obtain⟨hY,u,hu⟩:=dg h.ok (v+1).toNat hA;have hcl:=eZ h.ok hA (by omega);have hsub:∀a∈A,a∈(af (L0++log) (v+1).toNat A).1:=fun a ha=>by rw[hu];exact uf _ ha
  have hn:=(cg hP.a.dis).1 h0;have hall:=hP.led_all hY hcl fun d hd=>by obtain⟨j,hj,rfl⟩:=jC.1 hd;have hj:=yC.1 hj;rcases hP.dec j hj with hq|⟨y,_,_,_,_,e5⟩;exact hsub _ hq;exfalso;have ht:=(cy hP.a.dis).2 (HQ (e5 l hl));omega
  have h1:=(cy hY.dis).2 (hsub l hl);have h2:=(cg hY.dis).2 (hall _ hn);omega
end
structure F6(v:Int)(A:Li)(L0:Ll)(r:Bool×Li×Ll×Nat):Prop where
 ok:dM v (L0++r.2.2.1)
 chain:jK v L0 r.2.2.1
 bnd:r.2.2.2+1<=2^v.toNat
 sat:r.1=true->Df v (dF A++L0) (mQ v r.2.1)/\r.2.2.2=r.2.2.1.length
 unsat:r.1=false->∃lg c,r.2.2.1=lg++[c]/\r.2.2.2=lg.length/\r.2.1=[]/\∀x∈c,neg x∈A
theorem mw{A t:Li}{l:Int}(h:fp A t=some l):l∈A/\cH t l≠1:=by refine⟨List.mem_of_find?_eq_some h,?_⟩;have:=List.find?_some h;simpa using this
theorem mz{v:Int}{A t s:Li}(ht:bZ v t s)(h:fp A t=none):∀a∈A,a∈t:=fun a ha=>by have:=List.find?_eq_none.1 h a ha;simp only[ir,Decidable.not_not]at this;exact(cy ht.dis).1 this
theorem pX{v:Int}{A:Li}(hA:bZ v A []){L0:Ll}:∀(n:Nat) {t s:Li} {log:Ll},jc v A L0 t s log->ef v t s<n->F6 v A L0 (gY v A n (L0++log) t s log)
 |0,t,s,log,h,hn=>by omega
 |n+1,t,s,log,h,hn=>by
  have hP:=h.prop.1;have hbnd:log.length+1<=2^v.toNat:=by have:=h.mes;have:=iJ h.a;omega
  have hv:=h.a.vars;unfold gY;by_cases hat:0<=(af (L0++log) (v+1).toNat t).2;rw[aa hat];obtain⟨f1,f2,f3⟩:=h.fail hat rfl;by_cases hc:cj v (L0++log) (bP (af (L0++log) (v+1).toNat t).1 s)=[];rw[aa hc];rw[hc]at f1 f2;refine⟨?_,h.chain.snoc f2,hbnd,(by simp),fun _=>⟨log,[],rfl,rfl,rfl,by simp⟩⟩;show dM v (L0++(log++[[]]));rw[<-List.append_assoc,gf];exact⟨h.ok,fun d hd=>by rw[fQ]at hd;subst hd;exact f1⟩;rw[ab hc];obtain⟨t',s',e1,e2,e3⟩:=f3 hc;rw[e1];have:=pX hA n e2 (by omega);rw[<-List.append_assoc]at this;exact this
  .rw[ab hat];cases hw:fp A (af (L0++log) (v+1).toNat t).1 with
   |some l=>
    obtain⟨w1,w2⟩:=mw hw;dsimp only;by_cases h0:cH (af (L0++log) (v+1).toNat t).1 l=0;rw[aa h0];have hcf:=h.under hA rfl w1 h0;obtain⟨c1,c2⟩:=IF (L:=L0++log) hA;have hfr:=qU h.ok hA hcf c1;refine⟨?_,h.chain.snoc hfr,hbnd,(by simp),fun _=>⟨log,_,rfl,rfl,rfl,c2⟩⟩;show dM v (L0++(log++[cj v (L0++log) A]));rw[<-List.append_assoc,gf];exact⟨h.ok,fun d hd=>by rw[fQ]at hd;subst hd;exact c1⟩;rw[ab h0];have h2:cH (af (L0++log) (v+1).toNat t).1 l=2:=by rcases cQ (af (L0++log) (v+1).toNat t).1 l with h|h|h<;>omega
    obtain⟨e1,e2⟩:=h.choose rfl (hA.lits l w1) h2 (.inl w1);exact pX hA n e1 (by omega)
   |none=>
    have hall:=mz hP.a hw;dsimp only;by_cases hl:lf v (af (L0++log) (v+1).toNat t).1=0;rw[aa hl];have htot:∀x,1<=x->x<=v->cH (af (L0++log) (v+1).toNat t).1 (2*x)≠2:=by rcases gO (v:=v) (by omega) (af (L0++log) (v+1).toNat t).1 with⟨_,h2⟩|⟨h1,_⟩;exact h2;omega
    have hcl:=eZ h.ok h.a (by omega);have hmod:=qR hP.a htot h.ok hcl;refine⟨h.ok,h.chain,hbnd,fun _=>⟨⟨iK,?_,fun W hW hm i hi hpre hMi=>?_⟩,rfl⟩,by simp⟩;rw[kU,gN];exact⟨fun a ha=>by rw[sR hP.a htot (hA.lits a ha)];exact kp (hall a ha),fun c hc=>hmod c (uf _ hc)⟩;rw[nt hi]at hMi;have hx:=uW hMi;have:=hP.least hm hA.lits (x:=(i:Int)+1) (by omega) (by omega) hx (fun y y1 y2 hy=>?_);rw[fZ,show((i:Int)+1-1).toNat=i from by omega]at this;exact this;have:=hpre (y-1).toNat (by omega);rw[nt (by omega),show 2*(((y-1).toNat:Int)+1)=2*y from by omega]at this;rw[fZ,this];exact pd hy;rw[ab hl];obtain⟨x1,x2,x3,x4⟩:=(gO (v:=v) (by omega) (af (L0++log) (v+1).toNat t).1).resolve_left fun h=>hl h.1;have hnone:cH (af (L0++log) (v+1).toNat t).1 (2*lf v (af (L0++log) (v+1).toNat t).1+1)=2:=by rw[dN]at x3 ⊢;intro a ha he;exact x3 a ha (by omega)
    obtain⟨e1,e2⟩:=h.choose rfl (x:=2*lf v (af (L0++log) (v+1).toNat t).1+1) (by omega) hnone (.inr ⟨_,rfl,x1,x2,x4,hall⟩);exact pX hA n e1 (by omega)
theorem F6.none{v:Int}(hv:gD v){A:Li}(hA:∀a∈A,isLit v a){L0:Ll}{r:Bool×Li×Ll×Nat}(h:F6 v A L0 r)(hr:r.1=false)(W:Lb):¬eH (dF A++L0) W:=by
 intro hm;obtain⟨hmA,hm0⟩:=kU.1 hm;rw[gN]at hmA;obtain⟨lg,c,e,_,_,hc⟩:=h.unsat hr;have:=jX hv hm0 h.ok h.chain c (by rw[e];simp);obtain⟨x,hx,ht⟩:=nh.1 this;have hlit:=hA _ (hc x hx);have h1:=hmA _ (hc x hx);have hxl:2<=x:=by unfold neg at hlit;split at hlit<;>omega
 rw[lG hxl,ht]at h1;cases h1
end
section
def Cf(v:Int)(L:Ll)(A:Li):Bool:=!(EU v (dF A++L)).1
section
variable {v:Int} {L L':Ll} {A B:Li}
theorem Ag(h:∀a∈A,isLit v a):dM v (dF A):=fun c hc=>by obtain⟨a,ha,rfl⟩:=jC.1 hc;exact⟨fun l hl=>by rw[fQ]at hl;subst hl;exact h _ ha,List.pairwise_singleton ..⟩
theorem yF(hL:dM v L)(h:∀a∈A,isLit v a):dM v (dF A++L):=gf.2 ⟨Ag h,hL⟩
def coreC(v:Int)(L:Ll):Li->Li->Li
 |[],o=>o
 |d::r,o=>coreC v L r (if Cf v L (rm d o) then rm d o else o)
end
def gJ(v:Int)(A:Li)(L:Ll):Bool×Li×Ll×Nat:=gY v A (ef v [] []+1) L [] [] []
theorem Cv{v:Int}(hv:gD v){A:Li}{L:Ll}(hL:dM v L):jc v A L [] [] [] where
 ok:=by rw[s7];exact hL
 a:=⟨hv,by simp,List.Pairwise.nil,List.Pairwise.nil,by simp⟩
 led:=mK.empty hv
 dec:=oS.empty
 chain:=fun i hi=>by simp at hi
 mes:=Ks _
theorem vn{v:Int}{A:Li}(hA:bZ v A []){L:Ll}(hL:dM v L):F6 v A L (gJ v A L):=by
 have:=pX hA (ef v [] []+1) (Cv hA.vars hL) (Kq _)
 rwa [s7]at this
def Jn(v:Int)(A:Li)(L:Ll):Jw:=
 ((gJ v A L).1,if(gJ v A L).1 then mQ v (gJ v A L).2.1 else[],if(gJ v A L).1 then[] else coreC v L A A,(gJ v A L).2.2.1,((gJ v A L).2.2.2:Int))
def Ih(v b:Int)(A:Li)(L:Ll):PN:=if((gJ v A L).2.2.2:Int)<=b then(Jn v A L,0) else(Jo,55)
end
end Go.Proofs.YtfjpfjnepdhnaaaGreat

