import Derived.Test.YtpmmhhmhckpnfaaGreatQRxAnyB
set_option linter.all false
namespace Go.Proofs.YtpmmhhmhckpnfaaGreat.PL
open Go Go.Proofs.YtpmmhhmhckpnfaaGreat.RX
theorem fC(x:Int)(h1:-9223372036854775808<=x)(h2:x<=9223372036854775807):IntKind.wrap .i64 x=x:=by
 simp only[IntKind.wrap,IntKind.bits,IntKind.signed,Bool.true_and,decide_eq_true_eq,show((2:Int) ^ (64-1))=9223372036854775808 from rfl,show((2:Int) ^ 64)=18446744073709551616 from rfl]
 split<;>omega
theorem wrap_add(i k:Nat)(h:i+k<1000000000000):IntKind.wrap .i64 ((i:Int)+(k:Int))=((i+k:Nat):Int):=by rw[fC _ (by omega) (by omega)];omega
theorem dO(i:Nat)(h:i<1000000000):IntKind.wrap .i64 ((i:Int)+1)=((i+1:Nat):Int):=by rw[fC _ (by omega) (by omega)];omega
theorem TP(i:Nat)(h:i<1000000000)(h0:0<i):IntKind.wrap .i64 ((i:Int)-1)=((i-1:Nat):Int):=by rw[fC _ (by omega) (by omega)];omega
theorem bW{α:Type}{l:List α}{d:α}{i:Nat}(h:i<l.length):(l[Int.toNat (i:Int)]?.getD d)=l[i]:=by simp[h]
theorem aO{α:Type}{l:List α}{i:Nat}(h:i<l.length):decide (0<=(i:Int)/\(i:Int)<(List.length l:Int))=true:=by simp;omega
theorem bZ{i n:Nat}(h:i<n):decide ((i:Int)<(n:Int))=true:=by simp;omega
theorem JO{i n:Nat}(h:n<=i):decide ((i:Int)<(n:Int))=false:=by simp;omega
theorem DJ(c:UInt8)(k:Nat)(hk:k<256):((c.toNat:Int)==(k:Int))=decide (c=UInt8.ofNat k):=by
 rw[Bool.eq_iff_iff,beq_iff_eq,decide_eq_true_eq]
 constructor
 ·intro h
  have:c.toNat=k:=by omega
  rw[<-this,UInt8.ofNat_toNat]
 ·intro h;subst h;simp;omega
end Go.Proofs.YtpmmhhmhckpnfaaGreat.PL
